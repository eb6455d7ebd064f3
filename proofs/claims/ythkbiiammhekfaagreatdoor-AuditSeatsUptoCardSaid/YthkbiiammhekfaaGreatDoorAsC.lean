/-
  The violations of loads: the program's.
-/
import Derived.Test.YthkbiiammhekfaaGreatDoorAsB
import Derived.Test.YthkbiiammhekfaaGreatDoorSkC
set_option linter.unusedSimpArgs false
set_option linter.unusedVariables false
namespace Go.Proofs.YthkbiiammhekfaaGreatDoor.Dm
open Go Gw
set_option linter.unusedSimpArgs false
set_option linter.unusedSimpArgs false
namespace As

/-- A load. -/
structure Ld where
  leg : Lid
  eq : ByteArray
  sold : List (ByteArray × Int)
  soldx : Bool
  book : List (ByteArray × Int)
  bookx : Bool
def Ld.enc (x : Ld) : List D := [.str x.leg.c, .int .i64 x.leg.n, .int .i64 x.leg.d, .str x.leg.f, .str x.eq, .sl 2 (x.sold.map encK) x.soldx, .sl 2 (x.book.map encK) x.bookx]
theorem Ld_pure (r : Ld) : pureL r.enc = true := by
  simp only [D.pure, pureL_cons, pureL_nil, Bool.and_true, Bool.and_self, Ld.enc, encK_pure]
theorem Lds_pure (l : List Ld) : pureLL (l.map Ld.enc) = true := by
  induction l with
  | nil => rfl
  | cons f fs ih => rw [List.map_cons, pureLL_cons, ih, Ld_pure]; rfl
def lds : ByteArray := ByteArray.mk #[108, 111, 97, 100, 115, 46]
def atS (i : Nat) : ByteArray := lds ++ dec2 i
def nums (x : Ld) (y : Cab) : List Int := y.cls.map fun z => cntF x.sold z.code
def cabB (x : Ld) (i : Nat) (y : Cab) : List (Int × ByteArray) := ifF (!fitB y (nums x y)) 11 (atS i)
def ldL (cfgs : List Cfg) (i : Nat) (x : Ld) : List (Int × ByteArray) := match findF cfgs x.eq with
  | none => [(7, atS i)]
  | some c => c.cabs.flatMap (cabB x i) ++ ifF (difB x.sold x.book || difB x.book x.sold) 36 (atS i)
def seatL (cfgs : List Cfg) (l : List Ld) : Nat → List (Int × ByteArray)
  | 0 => []
  | i + 1 => seatL cfgs l i ++ match l[i]? with
    | some x => ldL cfgs i x
    | none => []
theorem seatL_succ {cfgs : List Cfg} {l : List Ld} {i : Nat} {x : Ld} (h : l[i]? = some x) : seatL cfgs l (i + 1) = seatL cfgs l i ++ ldL cfgs i x := by
  rw [seatL, h]
theorem flat_succ {α β : Type} {l : List α} {f : α → List β} {i : Nat} {y : α} (h : l[i]? = some y) : (l.take (i + 1)).flatMap f = (l.take i).flatMap f ++ f y := by
  rw [List.take_add_one, h, List.flatMap_append]
  simp
theorem ldL_len {cfgs : List Cfg} (hc : CfgsOk cfgs) (i : Nat) (x : Ld) : (ldL cfgs i x).length ≤ 5 := by
  unfold ldL
  split
  · simp
  · rename_i c h
    have hl := (hc.cfg c (findF_mem h).1).l2
    have h1 : ∀ m, m ≤ c.cabs.length → ((c.cabs.take m).flatMap (cabB x i)).length ≤ m := fun m hm => by
      induction m with
      | zero => simp
      | succ m ih =>
        obtain ⟨y, hy⟩ : ∃ y, c.cabs[m]? = some y := ⟨c.cabs[m], by simp⟩
        rw [flat_succ hy, List.length_append]
        have := ih (by omega)
        have := ifF_len (!fitB y (nums x y)) 11 (atS i)
        unfold cabB at *
        omega
    have h2 := h1 c.cabs.length (Nat.le_refl _)
    rw [List.take_length] at h2
    have h3 := ifF_len (difB x.sold x.book || difB x.book x.sold) 36 (atS i)
    rw [List.length_append]
    omega
theorem cabs_len {x : Ld} {i : Nat} (cabs : List Cab) : ∀ m, m ≤ cabs.length → ((cabs.take m).flatMap (cabB x i)).length ≤ m
  | 0, _ => by simp
  | m + 1, hm => by
    obtain ⟨y, hy⟩ : ∃ y, cabs[m]? = some y := ⟨cabs[m], by simp⟩
    rw [flat_succ hy, List.length_append]
    have := cabs_len (x := x) (i := i) cabs m (by omega)
    have := ifF_len (!fitB y (nums x y)) 11 (atS i)
    unfold cabB at *
    omega
theorem seatL_len {cfgs : List Cfg} (hc : CfgsOk cfgs) (l : List Ld) : ∀ i, (seatL cfgs l i).length ≤ 5 * i
  | 0 => Nat.le_refl _
  | i + 1 => by
    have := seatL_len hc l i
    rw [seatL, List.length_append]
    split
    · have := ldL_len hc i (by assumption); omega
    · simp; omega
/-- What the lists that grow leave as it was. -/
def KeepA (T T' : List Ob) : Prop := ∀ (j sz : Nat) (es : List (List D)), sz ≠ 1 → ¬ FaultOb (.row sz es) → T[j]? = some (.row sz es) → T'[j]? = some (.row sz es)
theorem KeepA.refl {T : List Ob} : KeepA T T := fun _ _ _ _ _ h => h
theorem KeepA.trans {T U V : List Ob} (h : KeepA T U) (g : KeepA U V) : KeepA T V := fun j s e h1 h2 h3 => g j s e h1 h2 (h j s e h1 h2 h3)
theorem KeepA.push {T : List Ob} (J : List Ob) : KeepA T (T ++ J) := fun _ _ _ _ _ h => get_old h
theorem not_fault_sz {sz : Nat} {es : List (List D)} (h : sz ≠ 2) : ¬ FaultOb (.row sz es) := by
  rintro ⟨fs, e⟩
  injection e with e
  exact h e
section
variable {n : Nat} {S : List Ob} {cfgs : List Cfg} {l : List Ld} {cx : Bool}
theorem atS_c {i : Nat} (hn : 50 ≤ n) (hi : i < 100) : (∀ st S, callD E (dcall E n) st S 58 [.int .i64 i] = some (.str (dec2 i), S)) ∧ ¬ IntKind.i64.max < (lds.size : Int) + (dec2 i).size := by
  refine ⟨fun st S => dec2_c hn hi st S, mx_of ?_⟩
  have := dec2_size i
  show 6 + _ ≤ 1000
  omega
/-- An append to the numbers. -/
theorem app_n {T : List Ob} {d : D} {z : List Int} (h : GL 1 encZ T d z) (hl : z.length ≤ 100000) (v : Int) :
    ∃ d' T', dAppend Tryz.prog T 119 119 d (.sl 1 [[.int .i64 v]] true) = some (d', T') ∧ GL 1 encZ T' d' (z ++ [v]) ∧ KeepA T T' ∧ (∀ e fs, GL 2 encF T e fs → GL 2 encF T' e fs) := by
  obtain ⟨T', h1, h2, h3, h4, h5⟩ := app_z h hl v
  refine ⟨_, T', h1, h2, fun j sz es hs _ hj => h5 j sz es hs hj, fun e fs he => ?_⟩
  rcases he with he | ⟨k, e1, e2⟩
  · exact .inl he
  · exact .inr ⟨k, e1, h5 k 2 _ (by omega) e2⟩
set_option maxHeartbeats 64000000 in
set_option maxRecDepth 100000 in
theorem Seats_d {q : Nat} (hn : 300 ≤ n) (hc : CfgsOk cfgs) (hcl : cfgs.length ≤ 100) (hl : l.length ≤ 8) (hk : ∀ x ∈ l, SmallK x.sold ∧ SmallK x.book) (hq : S[q]? = some (.row 7 (l.map Ld.enc))) :
    WO (dcall E (n + 1) 25 [.sl 2 (cfgs.map Cfg.enc) cx, .os q 0 l.length false] S) fun r T => GL 2 encF T r (seatL cfgs l l.length) := by
  refine wo_dcall Tryz.func25 rfl (by decide) rfl 96 rfl (fun a hal ha => ?_)
  have h0 : a[0]? = some (.sl 2 (cfgs.map Cfg.enc) cx) := ha 0 (by simp)
  have h1 : a[1]? = some (.os q 0 l.length false) := ha 1 (by simp)
  clear ha
  have b1 : ¬ (1024 : Int) < l.length := by omega
  simp (maxSteps := 1000000) (disch := omega) only [push_cast, ↓wc_seq, ↓wc_block, ↓wc_scope, ↓wc_condL, ↓wc_region, ↓wr_cons, ↓wr_consgL, ↓wr_nil, ↓wo_pickL, ↓wo_callf, ↓wc_exit, ↓wc_ret, ↓wc_skip, ↓wc_wl, wo_some, wo_none, wo_ite, opQ_eq, seqQ_normal, seqQ_exit, seqQ_ret, blockQ_normal, blockQ_exit, blockQ_ret, iterQ_normal, iterQ_exit, iterQ_ret, retQ_normal, retQ_ret, retQ_exit, pickC_true, pickC_false, pickO_true, pickO_false, gstep_tt, gstep_ff, gstep_tf, gstep_ft, gstep_skip, int_bne, int_beq, decide_not, Nat.reduceAdd, Nat.reduceMul, Nat.reduceSub, Nat.reducePow, Nat.reduceLT, Nat.reduceLeDiff, Nat.reduceEqDiff, Int.reduceToNat, Int.reduceAdd, Int.reduceSub, Int.reduceNeg, Int.reduceMul, Int.reduceLT, Int.reduceLE, Int.reduceEq, le_max, ↓wo_build, ↓wo_buildSlice, evParts, ↓reduceIte, planIds, hasExt, cntFs, idxFs, clnFs, ovlFs, List.contains_cons, List.contains_nil, List.any_cons, List.any_nil, Nat.reduceBEq, setC, List.length_set, decide_eq_true_eq, decide_eq_false_iff_not, true_implies, false_implies, forall_const, reduceCtorEq, eq_self, Int.natCast_nonneg, Int.toNat_natCast, Int.ofNat_lt, D.int.injEq, Option.some.injEq, Nat.zero_add, Nat.add_zero, bne_iff_ne, bne_eq_false_iff_eq, beq_iff_eq, beq_eq_false_iff_ne, gt_iff_lt, ne_eq, not_true_eq_false, not_false_eq_true, hal, h0, h1, hq, b1, Nat.zero_le, Nat.le_refl, Nat.sub_zero, Nat.lt_irrefl, and_self, and_true, true_and, and_false, false_and, Bool.false_and, Bool.not_false, Bool.or_true, Bool.or_self, Bool.false_or]
  refine wl_loop (fun i a T => (∃ d, a[5]? = some d ∧ GL 2 encF T d (seatL cfgs l i) ∧ T[q]? = some (.row 7 (l.map Ld.enc))) ∧ a.length = 96 ∧ a[0]? = some (.sl 2 (cfgs.map Cfg.enc) cx) ∧ a[20]? = some (.os q 0 l.length false) ∧ a[21]? = some (.int .i64 l.length) ∧ a[22]? = some (.int .i64 i)) l.length ?_ (by omega) ?_
  · simp (maxSteps := 1000000) (disch := omega) only [push_cast, ↓wc_seq, ↓wc_block, ↓wc_scope, ↓wc_condL, ↓wc_region, ↓wr_cons, ↓wr_consgL, ↓wr_nil, ↓wo_pickL, ↓wo_callf, ↓wc_exit, ↓wc_ret, ↓wc_skip, ↓wc_wl, wo_some, wo_none, wo_ite, opQ_eq, seqQ_normal, seqQ_exit, seqQ_ret, blockQ_normal, blockQ_exit, blockQ_ret, iterQ_normal, iterQ_exit, iterQ_ret, retQ_normal, retQ_ret, retQ_exit, pickC_true, pickC_false, pickO_true, pickO_false, gstep_tt, gstep_ff, gstep_tf, gstep_ft, gstep_skip, int_bne, int_beq, decide_not, Nat.reduceAdd, Nat.reduceMul, Nat.reduceSub, Nat.reducePow, Nat.reduceLT, Nat.reduceLeDiff, Nat.reduceEqDiff, Int.reduceToNat, Int.reduceAdd, Int.reduceSub, Int.reduceNeg, Int.reduceMul, Int.reduceLT, Int.reduceLE, Int.reduceEq, le_max, ↓wo_build, ↓wo_buildSlice, evParts, ↓reduceIte, planIds, hasExt, cntFs, idxFs, clnFs, ovlFs, List.contains_cons, List.contains_nil, List.any_cons, List.any_nil, Nat.reduceBEq, setC, List.length_set, decide_eq_true_eq, decide_eq_false_iff_not, true_implies, false_implies, forall_const, reduceCtorEq, eq_self, Int.natCast_nonneg, Int.toNat_natCast, Int.ofNat_lt, D.int.injEq, Option.some.injEq, Nat.zero_add, Nat.add_zero, bne_iff_ne, bne_eq_false_iff_eq, beq_iff_eq, beq_eq_false_iff_ne, gt_iff_lt, ne_eq, not_true_eq_false, not_false_eq_true, hal, h0, h1, Int.natCast_zero]
    exact ⟨_, rfl, GL.nil, hq⟩
  clear hal h0 h1 a
  rintro i a T hi ⟨⟨d, h5, hg, hTq⟩, hal, h0, h20, h21, h22⟩
  rcases Nat.lt_or_eq_of_le hi with hlt | rfl
  case inr =>
    simp (maxSteps := 1000000) (disch := omega) only [push_cast, ↓wc_seq, ↓wc_block, ↓wc_scope, ↓wc_condL, ↓wc_region, ↓wr_cons, ↓wr_consgL, ↓wr_nil, ↓wo_pickL, ↓wo_callf, ↓wc_exit, ↓wc_ret, ↓wc_skip, ↓wc_wl, wo_some, wo_none, wo_ite, opQ_eq, seqQ_normal, seqQ_exit, seqQ_ret, blockQ_normal, blockQ_exit, blockQ_ret, iterQ_normal, iterQ_exit, iterQ_ret, retQ_normal, retQ_ret, retQ_exit, pickC_true, pickC_false, pickO_true, pickO_false, gstep_tt, gstep_ff, gstep_tf, gstep_ft, gstep_skip, int_bne, int_beq, decide_not, Nat.reduceAdd, Nat.reduceMul, Nat.reduceSub, Nat.reducePow, Nat.reduceLT, Nat.reduceLeDiff, Nat.reduceEqDiff, Int.reduceToNat, Int.reduceAdd, Int.reduceSub, Int.reduceNeg, Int.reduceMul, Int.reduceLT, Int.reduceLE, Int.reduceEq, le_max, ↓wo_build, ↓wo_buildSlice, evParts, ↓reduceIte, planIds, hasExt, cntFs, idxFs, clnFs, ovlFs, List.contains_cons, List.contains_nil, List.any_cons, List.any_nil, Nat.reduceBEq, setC, List.length_set, decide_eq_true_eq, decide_eq_false_iff_not, true_implies, false_implies, forall_const, reduceCtorEq, eq_self, Int.natCast_nonneg, Int.toNat_natCast, Int.ofNat_lt, D.int.injEq, Option.some.injEq, Nat.zero_add, Nat.add_zero, bne_iff_ne, bne_eq_false_iff_eq, beq_iff_eq, beq_eq_false_iff_ne, gt_iff_lt, ne_eq, not_true_eq_false, not_false_eq_true, hal, h0, h5, h20, h21, h22, Int.lt_irrefl, Tryz.f25]
    exact hg
  have hltc : (i : Int) < l.length := by omega
  obtain ⟨x, hx⟩ : ∃ x, l[i]? = some x := ⟨l[i], by simp⟩
  obtain ⟨k1, k2⟩ := hk x (List.mem_of_getElem? hx)
  have hslen := seatL_len hc l i
  obtain ⟨cd, md⟩ := atS_c (n := n) (i := i) (by omega) (by omega)
  have cfn := fun st S => Find_c (n := n) (l := cfgs) (x := cx) (e := x.eq) (by omega) hcl st S
  have hs1 := seatL_succ (cfgs := cfgs) hx
  have nf7 : ∀ es, ¬ FaultOb (.row 7 es) := fun es => not_fault_sz (by omega)
  have nf4 : ∀ es, ¬ FaultOb (.row 4 es) := fun es => not_fault_sz (by omega)
  unfold lds at md
  refine wc_scut (fun a V => V = T ∧ a.length = 96 ∧ a[0]? = some (.sl 2 (cfgs.map Cfg.enc) cx) ∧ a[5]? = some (d) ∧ a[20]? = some (.os q 0 l.length false) ∧ a[21]? = some (.int .i64 l.length) ∧ a[22]? = some (.int .i64 i) ∧ a[23]? = some (.bool true)) ?_ ?_
  · simp (maxSteps := 1000000) (disch := omega) only [push_cast, ↓wc_seq, ↓wc_block, ↓wc_scope, ↓wc_condL, ↓wc_region, ↓wr_cons, ↓wr_consgL, ↓wr_nil, ↓wo_pickL, ↓wo_callf, ↓wc_exit, ↓wc_ret, ↓wc_skip, ↓wc_wl, wo_some, wo_none, wo_ite, opQ_eq, seqQ_normal, seqQ_exit, seqQ_ret, blockQ_normal, blockQ_exit, blockQ_ret, iterQ_normal, iterQ_exit, iterQ_ret, retQ_normal, retQ_ret, retQ_exit, pickC_true, pickC_false, pickO_true, pickO_false, gstep_tt, gstep_ff, gstep_tf, gstep_ft, gstep_skip, int_bne, int_beq, decide_not, Nat.reduceAdd, Nat.reduceMul, Nat.reduceSub, Nat.reducePow, Nat.reduceLT, Nat.reduceLeDiff, Nat.reduceEqDiff, Int.reduceToNat, Int.reduceAdd, Int.reduceSub, Int.reduceNeg, Int.reduceMul, Int.reduceLT, Int.reduceLE, Int.reduceEq, le_max, ↓wo_build, ↓wo_buildSlice, evParts, ↓reduceIte, planIds, hasExt, cntFs, idxFs, clnFs, ovlFs, List.contains_cons, List.contains_nil, List.any_cons, List.any_nil, Nat.reduceBEq, setC, List.length_set, decide_eq_true_eq, decide_eq_false_iff_not, true_implies, false_implies, forall_const, reduceCtorEq, eq_self, Int.natCast_nonneg, Int.toNat_natCast, Int.ofNat_lt, D.int.injEq, Option.some.injEq, Nat.zero_add, Nat.add_zero, bne_iff_ne, bne_eq_false_iff_eq, beq_iff_eq, beq_eq_false_iff_ne, gt_iff_lt, ne_eq, not_true_eq_false, not_false_eq_true, hal, h0, h5, h20, h21, h22, hltc]
  clear hal h0 h5 h20 h21 h22 a
  rintro a V ⟨rfl, hal, h0, h5, h20, h21, h22, h23⟩
  refine wc_scut (fun a W => W = V ∧ a.length = 96 ∧ a[0]? = some (.sl 2 (cfgs.map Cfg.enc) cx) ∧ a[5]? = some (d) ∧ a[20]? = some (.os q 0 l.length false) ∧ a[21]? = some (.int .i64 l.length) ∧ a[22]? = some (.int .i64 i)) ?_ ?_
  · simp (maxSteps := 1000000) (disch := omega) only [push_cast, ↓wc_seq, ↓wc_block, ↓wc_scope, ↓wc_condL, ↓wc_region, ↓wr_cons, ↓wr_consgL, ↓wr_nil, ↓wo_pickL, ↓wo_callf, ↓wc_exit, ↓wc_ret, ↓wc_skip, ↓wc_wl, wo_some, wo_none, wo_ite, opQ_eq, seqQ_normal, seqQ_exit, seqQ_ret, blockQ_normal, blockQ_exit, blockQ_ret, iterQ_normal, iterQ_exit, iterQ_ret, retQ_normal, retQ_ret, retQ_exit, pickC_true, pickC_false, pickO_true, pickO_false, gstep_tt, gstep_ff, gstep_tf, gstep_ft, gstep_skip, int_bne, int_beq, decide_not, Nat.reduceAdd, Nat.reduceMul, Nat.reduceSub, Nat.reducePow, Nat.reduceLT, Nat.reduceLeDiff, Nat.reduceEqDiff, Int.reduceToNat, Int.reduceAdd, Int.reduceSub, Int.reduceNeg, Int.reduceMul, Int.reduceLT, Int.reduceLE, Int.reduceEq, le_max, ↓wo_build, ↓wo_buildSlice, evParts, ↓reduceIte, planIds, hasExt, cntFs, idxFs, clnFs, ovlFs, List.contains_cons, List.contains_nil, List.any_cons, List.any_nil, Nat.reduceBEq, setC, List.length_set, decide_eq_true_eq, decide_eq_false_iff_not, true_implies, false_implies, forall_const, reduceCtorEq, eq_self, Int.natCast_nonneg, Int.toNat_natCast, Int.ofNat_lt, D.int.injEq, Option.some.injEq, Nat.zero_add, Nat.add_zero, bne_iff_ne, bne_eq_false_iff_eq, beq_iff_eq, beq_eq_false_iff_ne, gt_iff_lt, ne_eq, not_true_eq_false, not_false_eq_true, hal, h0, h5, h20, h21, h22, h23]
  clear hal h0 h5 h20 h21 h22 h23 a
  rintro a V ⟨rfl, hal, h0, h5, h20, h21, h22⟩
  rw [wc_seq, wc_block]
  obtain ⟨S1, hS1⟩ : ∃ S1, S1 = V ++ [Ob.row 7 [x.enc]] := ⟨_, rfl⟩
  have g1 : S1[V.length]? = some (.row 7 [x.enc]) := by rw [hS1]; exact get_end
  have hq1 : S1[q]? = some (.row 7 (l.map Ld.enc)) := by rw [hS1]; exact get_old hTq
  have hg1 : GL 2 encF S1 d (seatL cfgs l i) := by rw [hS1]; exact hg.push _
  refine wc_scut (fun a W => W = S1 ∧ a.length = 96 ∧ a[0]? = some (.sl 2 (cfgs.map Cfg.enc) cx) ∧ a[5]? = some (d) ∧ a[6]? = some (.int .i64 i) ∧ a[7]? = some (.loc V.length 0 0) ∧ a[20]? = some (.os q 0 l.length false) ∧ a[21]? = some (.int .i64 l.length) ∧ a[22]? = some (.int .i64 i)) ?_ ?_
  · simp (maxSteps := 1000000) (disch := omega) only [push_cast, ↓wc_seq, ↓wc_block, ↓wc_scope, ↓wc_condL, ↓wc_region, ↓wr_cons, ↓wr_consgL, ↓wr_nil, ↓wo_pickL, ↓wo_callf, ↓wc_exit, ↓wc_ret, ↓wc_skip, ↓wc_wl, wo_some, wo_none, wo_ite, opQ_eq, seqQ_normal, seqQ_exit, seqQ_ret, blockQ_normal, blockQ_exit, blockQ_ret, iterQ_normal, iterQ_exit, iterQ_ret, retQ_normal, retQ_ret, retQ_exit, pickC_true, pickC_false, pickO_true, pickO_false, gstep_tt, gstep_ff, gstep_tf, gstep_ft, gstep_skip, int_bne, int_beq, decide_not, Nat.reduceAdd, Nat.reduceMul, Nat.reduceSub, Nat.reducePow, Nat.reduceLT, Nat.reduceLeDiff, Nat.reduceEqDiff, Int.reduceToNat, Int.reduceAdd, Int.reduceSub, Int.reduceNeg, Int.reduceMul, Int.reduceLT, Int.reduceLE, Int.reduceEq, le_max, ↓wo_build, ↓wo_buildSlice, evParts, ↓reduceIte, planIds, hasExt, cntFs, idxFs, clnFs, ovlFs, List.contains_cons, List.contains_nil, List.any_cons, List.any_nil, Nat.reduceBEq, setC, List.length_set, decide_eq_true_eq, decide_eq_false_iff_not, true_implies, false_implies, forall_const, reduceCtorEq, eq_self, Int.natCast_nonneg, Int.toNat_natCast, Int.ofNat_lt, D.int.injEq, Option.some.injEq, Nat.zero_add, Nat.add_zero, bne_iff_ne, bne_eq_false_iff_eq, beq_iff_eq, beq_eq_false_iff_ne, gt_iff_lt, ne_eq, not_true_eq_false, not_false_eq_true, hal, h0, h5, h20, h21, h22, hlt, hTq, hx, get_end, set_end, List.getElem?_map, Option.map_some, Ld.enc]
    exact hS1.symm
  clear hal h0 h5 h20 h21 h22 a
  rintro a W ⟨rfl, hal, h0, h5, h6, h7, h20, h21, h22⟩
  refine wc_scut (fun a U => U = W ∧ a.length = 96 ∧ a[0]? = some (.sl 2 (cfgs.map Cfg.enc) cx) ∧ a[5]? = some (d) ∧ a[7]? = some (.loc V.length 0 0) ∧ a[8]? = some (.str (atS i)) ∧ a[20]? = some (.os q 0 l.length false) ∧ a[21]? = some (.int .i64 l.length) ∧ a[22]? = some (.int .i64 i)) ?_ ?_
  · unfold atS lds
    simp (maxSteps := 1000000) (disch := omega) only [push_cast, ↓wc_seq, ↓wc_block, ↓wc_scope, ↓wc_condL, ↓wc_region, ↓wr_cons, ↓wr_consgL, ↓wr_nil, ↓wo_pickL, ↓wo_callf, ↓wc_exit, ↓wc_ret, ↓wc_skip, ↓wc_wl, wo_some, wo_none, wo_ite, opQ_eq, seqQ_normal, seqQ_exit, seqQ_ret, blockQ_normal, blockQ_exit, blockQ_ret, iterQ_normal, iterQ_exit, iterQ_ret, retQ_normal, retQ_ret, retQ_exit, pickC_true, pickC_false, pickO_true, pickO_false, gstep_tt, gstep_ff, gstep_tf, gstep_ft, gstep_skip, int_bne, int_beq, decide_not, Nat.reduceAdd, Nat.reduceMul, Nat.reduceSub, Nat.reducePow, Nat.reduceLT, Nat.reduceLeDiff, Nat.reduceEqDiff, Int.reduceToNat, Int.reduceAdd, Int.reduceSub, Int.reduceNeg, Int.reduceMul, Int.reduceLT, Int.reduceLE, Int.reduceEq, le_max, ↓wo_build, ↓wo_buildSlice, evParts, ↓reduceIte, planIds, hasExt, cntFs, idxFs, clnFs, ovlFs, List.contains_cons, List.contains_nil, List.any_cons, List.any_nil, Nat.reduceBEq, setC, List.length_set, decide_eq_true_eq, decide_eq_false_iff_not, true_implies, false_implies, forall_const, reduceCtorEq, eq_self, Int.natCast_nonneg, Int.toNat_natCast, Int.ofNat_lt, D.int.injEq, Option.some.injEq, Nat.zero_add, Nat.add_zero, bne_iff_ne, bne_eq_false_iff_eq, beq_iff_eq, beq_eq_false_iff_ne, gt_iff_lt, ne_eq, not_true_eq_false, not_false_eq_true, hal, h0, h5, h6, h7, h20, h21, h22, cd, md]
  clear hal h0 h5 h6 h7 h20 h21 h22 a
  rintro a U ⟨rfl, hal, h0, h5, h7, h8, h20, h21, h22⟩
  cases hfi : findF cfgs x.eq with
  | none =>
    rw [hfi] at cfn
    unfold foundC at cfn
    have hld : ldL cfgs i x = ifF true 7 (atS i) := by unfold ldL; rw [hfi]; rfl
    obtain ⟨S2, hS2⟩ : ∃ S2, S2 = U ++ [Ob.row 2 [[.str (ByteArray.mk #[]), .nils]]] := ⟨_, rfl⟩
    have hg2 : GL 2 encF S2 d (seatL cfgs l i) := by rw [hS2]; exact hg1.push _
    obtain ⟨d', T', p1, -, g2, k2⟩ := app_if hg2 (by omega) true 7 (atS i)
    replace p1 := p1 rfl
    have hq2 := k2 q _ (nf7 _) (show S2[q]? = _ by rw [hS2]; exact get_old hq1)
    refine wc_scut (fun a W => W = S2 ∧ a.length = 96 ∧ a[0]? = some (.sl 2 (cfgs.map Cfg.enc) cx) ∧ a[5]? = some (d) ∧ a[8]? = some (.str (atS i)) ∧ a[10]? = some (.bool false) ∧ a[20]? = some (.os q 0 l.length false) ∧ a[21]? = some (.int .i64 l.length) ∧ a[22]? = some (.int .i64 i)) ?_ ?_
    · simp only [Ld.enc] at g1
      simp (maxSteps := 1000000) (disch := omega) only [push_cast, ↓wc_seq, ↓wc_block, ↓wc_scope, ↓wc_condL, ↓wc_region, ↓wr_cons, ↓wr_consgL, ↓wr_nil, ↓wo_pickL, ↓wo_callf, ↓wc_exit, ↓wc_ret, ↓wc_skip, ↓wc_wl, wo_some, wo_none, wo_ite, opQ_eq, seqQ_normal, seqQ_exit, seqQ_ret, blockQ_normal, blockQ_exit, blockQ_ret, iterQ_normal, iterQ_exit, iterQ_ret, retQ_normal, retQ_ret, retQ_exit, pickC_true, pickC_false, pickO_true, pickO_false, gstep_tt, gstep_ff, gstep_tf, gstep_ft, gstep_skip, int_bne, int_beq, decide_not, Nat.reduceAdd, Nat.reduceMul, Nat.reduceSub, Nat.reducePow, Nat.reduceLT, Nat.reduceLeDiff, Nat.reduceEqDiff, Int.reduceToNat, Int.reduceAdd, Int.reduceSub, Int.reduceNeg, Int.reduceMul, Int.reduceLT, Int.reduceLE, Int.reduceEq, le_max, ↓wo_build, ↓wo_buildSlice, evParts, ↓reduceIte, planIds, hasExt, cntFs, idxFs, clnFs, ovlFs, List.contains_cons, List.contains_nil, List.any_cons, List.any_nil, Nat.reduceBEq, setC, List.length_set, decide_eq_true_eq, decide_eq_false_iff_not, true_implies, false_implies, forall_const, reduceCtorEq, eq_self, Int.natCast_nonneg, Int.toNat_natCast, Int.ofNat_lt, D.int.injEq, Option.some.injEq, Nat.zero_add, Nat.add_zero, bne_iff_ne, bne_eq_false_iff_eq, beq_iff_eq, beq_eq_false_iff_ne, gt_iff_lt, ne_eq, not_true_eq_false, not_false_eq_true, hal, h0, h5, h7, h8, h20, h21, h22, g1, cfn, get_end, set_end]
      exact hS2.symm
    clear hal h0 h5 h7 h8 h20 h21 h22 a
    rintro a W ⟨rfl, hal, h0, h5, h8, h10, h20, h21, h22⟩
    generalize atS i = at0 at *
    simp (maxSteps := 1000000) (disch := omega) only [push_cast, ↓wc_seq, ↓wc_block, ↓wc_scope, ↓wc_condL, ↓wc_region, ↓wr_cons, ↓wr_consgL, ↓wr_nil, ↓wo_pickL, ↓wo_callf, ↓wc_exit, ↓wc_ret, ↓wc_skip, ↓wc_wl, wo_some, wo_none, wo_ite, opQ_eq, seqQ_normal, seqQ_exit, seqQ_ret, blockQ_normal, blockQ_exit, blockQ_ret, iterQ_normal, iterQ_exit, iterQ_ret, retQ_normal, retQ_ret, retQ_exit, pickC_true, pickC_false, pickO_true, pickO_false, gstep_tt, gstep_ff, gstep_tf, gstep_ft, gstep_skip, int_bne, int_beq, decide_not, Nat.reduceAdd, Nat.reduceMul, Nat.reduceSub, Nat.reducePow, Nat.reduceLT, Nat.reduceLeDiff, Nat.reduceEqDiff, Int.reduceToNat, Int.reduceAdd, Int.reduceSub, Int.reduceNeg, Int.reduceMul, Int.reduceLT, Int.reduceLE, Int.reduceEq, le_max, ↓wo_build, ↓wo_buildSlice, evParts, ↓reduceIte, planIds, hasExt, cntFs, idxFs, clnFs, ovlFs, List.contains_cons, List.contains_nil, List.any_cons, List.any_nil, Nat.reduceBEq, setC, List.length_set, decide_eq_true_eq, decide_eq_false_iff_not, true_implies, false_implies, forall_const, reduceCtorEq, eq_self, Int.natCast_nonneg, Int.toNat_natCast, Int.ofNat_lt, D.int.injEq, Option.some.injEq, Nat.zero_add, Nat.add_zero, bne_iff_ne, bne_eq_false_iff_eq, beq_iff_eq, beq_eq_false_iff_ne, gt_iff_lt, ne_eq, not_true_eq_false, not_false_eq_true, hal, h0, h5, h8, h10, h20, h21, h22, p1, dUn, Bool.not_false, wrap_ok, Int.natCast_add, Int.natCast_one]
    rw [hs1, hld]
    exact ⟨hlt, d', rfl, g2, hq2⟩
  | some c =>
    rw [hfi] at cfn
    unfold foundC at cfn
    have hcm := (findF_mem hfi).1
    have hco := hc.cfg c hcm
    have hld : ldL cfgs i x = c.cabs.flatMap (cabB x i) ++ ifF (difB x.sold x.book || difB x.book x.sold) 36 (atS i) := by unfold ldL; rw [hfi]
    obtain ⟨S2, hS2⟩ : ∃ S2, S2 = U ++ [Ob.row 2 [c.enc]] := ⟨_, rfl⟩
    have hg2 : GL 2 encF S2 d (seatL cfgs l i) := by rw [hS2]; exact hg1.push _
    have g2 : S2[U.length]? = some (.row 2 [c.enc]) := by rw [hS2]; exact get_end
    have hq2 : S2[q]? = some (.row 7 (l.map Ld.enc)) := by rw [hS2]; exact get_old hq1
    have gx2 : S2[V.length]? = some (.row 7 [x.enc]) := by rw [hS2]; exact get_old g1
    refine wc_scut (fun a W => W = S2 ∧ a.length = 96 ∧ a[0]? = some (.sl 2 (cfgs.map Cfg.enc) cx) ∧ a[5]? = some (d) ∧ a[7]? = some (.loc V.length 0 0) ∧ a[8]? = some (.str (atS i)) ∧ a[9]? = some (.loc U.length 0 0) ∧ a[10]? = some (.bool true) ∧ a[20]? = some (.os q 0 l.length false) ∧ a[21]? = some (.int .i64 l.length) ∧ a[22]? = some (.int .i64 i)) ?_ ?_
    · simp only [Ld.enc] at g1
      simp (maxSteps := 1000000) (disch := omega) only [push_cast, ↓wc_seq, ↓wc_block, ↓wc_scope, ↓wc_condL, ↓wc_region, ↓wr_cons, ↓wr_consgL, ↓wr_nil, ↓wo_pickL, ↓wo_callf, ↓wc_exit, ↓wc_ret, ↓wc_skip, ↓wc_wl, wo_some, wo_none, wo_ite, opQ_eq, seqQ_normal, seqQ_exit, seqQ_ret, blockQ_normal, blockQ_exit, blockQ_ret, iterQ_normal, iterQ_exit, iterQ_ret, retQ_normal, retQ_ret, retQ_exit, pickC_true, pickC_false, pickO_true, pickO_false, gstep_tt, gstep_ff, gstep_tf, gstep_ft, gstep_skip, int_bne, int_beq, decide_not, Nat.reduceAdd, Nat.reduceMul, Nat.reduceSub, Nat.reducePow, Nat.reduceLT, Nat.reduceLeDiff, Nat.reduceEqDiff, Int.reduceToNat, Int.reduceAdd, Int.reduceSub, Int.reduceNeg, Int.reduceMul, Int.reduceLT, Int.reduceLE, Int.reduceEq, le_max, ↓wo_build, ↓wo_buildSlice, evParts, ↓reduceIte, planIds, hasExt, cntFs, idxFs, clnFs, ovlFs, List.contains_cons, List.contains_nil, List.any_cons, List.any_nil, Nat.reduceBEq, setC, List.length_set, decide_eq_true_eq, decide_eq_false_iff_not, true_implies, false_implies, forall_const, reduceCtorEq, eq_self, Int.natCast_nonneg, Int.toNat_natCast, Int.ofNat_lt, D.int.injEq, Option.some.injEq, Nat.zero_add, Nat.add_zero, bne_iff_ne, bne_eq_false_iff_eq, beq_iff_eq, beq_eq_false_iff_ne, gt_iff_lt, ne_eq, not_true_eq_false, not_false_eq_true, hal, h0, h5, h7, h8, h20, h21, h22, g1, cfn, get_end, set_end, Cfg.enc]
      exact hS2.symm
    clear hal h0 h5 h7 h8 h20 h21 h22 a
    rintro a W ⟨rfl, hal, h0, h5, h7, h8, h9, h10, h20, h21, h22⟩
    refine wc_scut (fun a Z => Z = W ∧ a.length = 96 ∧ a[0]? = some (.sl 2 (cfgs.map Cfg.enc) cx) ∧ a[5]? = some (d) ∧ a[7]? = some (.loc V.length 0 0) ∧ a[8]? = some (.str (atS i)) ∧ a[9]? = some (.loc U.length 0 0) ∧ a[20]? = some (.os q 0 l.length false) ∧ a[21]? = some (.int .i64 l.length) ∧ a[22]? = some (.int .i64 i)) ?_ ?_
    · simp (maxSteps := 1000000) (disch := omega) only [push_cast, ↓wc_seq, ↓wc_block, ↓wc_scope, ↓wc_condL, ↓wc_region, ↓wr_cons, ↓wr_consgL, ↓wr_nil, ↓wo_pickL, ↓wo_callf, ↓wc_exit, ↓wc_ret, ↓wc_skip, ↓wc_wl, wo_some, wo_none, wo_ite, opQ_eq, seqQ_normal, seqQ_exit, seqQ_ret, blockQ_normal, blockQ_exit, blockQ_ret, iterQ_normal, iterQ_exit, iterQ_ret, retQ_normal, retQ_ret, retQ_exit, pickC_true, pickC_false, pickO_true, pickO_false, gstep_tt, gstep_ff, gstep_tf, gstep_ft, gstep_skip, int_bne, int_beq, decide_not, Nat.reduceAdd, Nat.reduceMul, Nat.reduceSub, Nat.reducePow, Nat.reduceLT, Nat.reduceLeDiff, Nat.reduceEqDiff, Int.reduceToNat, Int.reduceAdd, Int.reduceSub, Int.reduceNeg, Int.reduceMul, Int.reduceLT, Int.reduceLE, Int.reduceEq, le_max, ↓wo_build, ↓wo_buildSlice, evParts, ↓reduceIte, planIds, hasExt, cntFs, idxFs, clnFs, ovlFs, List.contains_cons, List.contains_nil, List.any_cons, List.any_nil, Nat.reduceBEq, setC, List.length_set, decide_eq_true_eq, decide_eq_false_iff_not, true_implies, false_implies, forall_const, reduceCtorEq, eq_self, Int.natCast_nonneg, Int.toNat_natCast, Int.ofNat_lt, D.int.injEq, Option.some.injEq, Nat.zero_add, Nat.add_zero, bne_iff_ne, bne_eq_false_iff_eq, beq_iff_eq, beq_eq_false_iff_ne, gt_iff_lt, ne_eq, not_true_eq_false, not_false_eq_true, hal, h0, h5, h7, h8, h9, h10, h20, h21, h22, dUn, Bool.not_true]
    clear hal h0 h5 h7 h8 h9 h10 h20 h21 h22 a
    rintro a Z ⟨rfl, hal, h0, h5, h7, h8, h9, h20, h21, h22⟩
    refine wc_scut (fun a Y => (∃ d, a[5]? = some d ∧ GL 2 encF Y d (seatL cfgs l i ++ c.cabs.flatMap (cabB x i)) ∧ Y[q]? = some (.row 7 (l.map Ld.enc)) ∧ Y[V.length]? = some (.row 7 [x.enc])) ∧ a.length = 96 ∧ a[0]? = some (.sl 2 (cfgs.map Cfg.enc) cx) ∧ a[7]? = some (.loc V.length 0 0) ∧ a[8]? = some (.str (atS i)) ∧ a[20]? = some (.os q 0 l.length false) ∧ a[21]? = some (.int .i64 l.length) ∧ a[22]? = some (.int .i64 i)) ?_ ?_
    · simp only [Cfg.enc] at g2
      simp (maxSteps := 1000000) (disch := omega) only [push_cast, ↓wc_seq, ↓wc_block, ↓wc_scope, ↓wc_condL, ↓wc_region, ↓wr_cons, ↓wr_consgL, ↓wr_nil, ↓wo_pickL, ↓wo_callf, ↓wc_exit, ↓wc_ret, ↓wc_skip, ↓wc_wl, wo_some, wo_none, wo_ite, opQ_eq, seqQ_normal, seqQ_exit, seqQ_ret, blockQ_normal, blockQ_exit, blockQ_ret, iterQ_normal, iterQ_exit, iterQ_ret, retQ_normal, retQ_ret, retQ_exit, pickC_true, pickC_false, pickO_true, pickO_false, gstep_tt, gstep_ff, gstep_tf, gstep_ft, gstep_skip, int_bne, int_beq, decide_not, Nat.reduceAdd, Nat.reduceMul, Nat.reduceSub, Nat.reducePow, Nat.reduceLT, Nat.reduceLeDiff, Nat.reduceEqDiff, Int.reduceToNat, Int.reduceAdd, Int.reduceSub, Int.reduceNeg, Int.reduceMul, Int.reduceLT, Int.reduceLE, Int.reduceEq, le_max, ↓wo_build, ↓wo_buildSlice, evParts, ↓reduceIte, planIds, hasExt, cntFs, idxFs, clnFs, ovlFs, List.contains_cons, List.contains_nil, List.any_cons, List.any_nil, Nat.reduceBEq, setC, List.length_set, decide_eq_true_eq, decide_eq_false_iff_not, true_implies, false_implies, forall_const, reduceCtorEq, eq_self, Int.natCast_nonneg, Int.toNat_natCast, Int.ofNat_lt, D.int.injEq, Option.some.injEq, Nat.zero_add, Nat.add_zero, bne_iff_ne, bne_eq_false_iff_eq, beq_iff_eq, beq_eq_false_iff_ne, gt_iff_lt, ne_eq, not_true_eq_false, not_false_eq_true, hal, h0, h5, h7, h8, h9, h20, h21, h22, g2, List.length_map]
      have hl2 := hco.l2
      refine wl_loop (fun m a T => (∃ d, a[5]? = some d ∧ GL 2 encF T d (seatL cfgs l i ++ (c.cabs.take m).flatMap (cabB x i)) ∧ T[q]? = some (.row 7 (l.map Ld.enc)) ∧ T[V.length]? = some (.row 7 [x.enc])) ∧ a.length = 96 ∧ a[0]? = some (.sl 2 (cfgs.map Cfg.enc) cx) ∧ a[7]? = some (.loc V.length 0 0) ∧ a[8]? = some (.str (atS i)) ∧ a[20]? = some (.os q 0 l.length false) ∧ a[21]? = some (.int .i64 l.length) ∧ a[22]? = some (.int .i64 i) ∧ a[45]? = some (.sl 4 (c.cabs.map Cab.enc) c.cabsx) ∧ a[46]? = some (.int .i64 c.cabs.length) ∧ a[47]? = some (.int .i64 m)) c.cabs.length ?_ (by omega) ?_
      · simp (maxSteps := 1000000) (disch := omega) only [push_cast, ↓wc_seq, ↓wc_block, ↓wc_scope, ↓wc_condL, ↓wc_region, ↓wr_cons, ↓wr_consgL, ↓wr_nil, ↓wo_pickL, ↓wo_callf, ↓wc_exit, ↓wc_ret, ↓wc_skip, ↓wc_wl, wo_some, wo_none, wo_ite, opQ_eq, seqQ_normal, seqQ_exit, seqQ_ret, blockQ_normal, blockQ_exit, blockQ_ret, iterQ_normal, iterQ_exit, iterQ_ret, retQ_normal, retQ_ret, retQ_exit, pickC_true, pickC_false, pickO_true, pickO_false, gstep_tt, gstep_ff, gstep_tf, gstep_ft, gstep_skip, int_bne, int_beq, decide_not, Nat.reduceAdd, Nat.reduceMul, Nat.reduceSub, Nat.reducePow, Nat.reduceLT, Nat.reduceLeDiff, Nat.reduceEqDiff, Int.reduceToNat, Int.reduceAdd, Int.reduceSub, Int.reduceNeg, Int.reduceMul, Int.reduceLT, Int.reduceLE, Int.reduceEq, le_max, ↓wo_build, ↓wo_buildSlice, evParts, ↓reduceIte, planIds, hasExt, cntFs, idxFs, clnFs, ovlFs, List.contains_cons, List.contains_nil, List.any_cons, List.any_nil, Nat.reduceBEq, setC, List.length_set, decide_eq_true_eq, decide_eq_false_iff_not, true_implies, false_implies, forall_const, reduceCtorEq, eq_self, Int.natCast_nonneg, Int.toNat_natCast, Int.ofNat_lt, D.int.injEq, Option.some.injEq, Nat.zero_add, Nat.add_zero, bne_iff_ne, bne_eq_false_iff_eq, beq_iff_eq, beq_eq_false_iff_ne, gt_iff_lt, ne_eq, not_true_eq_false, not_false_eq_true, hal, h0, h5, h7, h8, h9, h20, h21, h22, Int.natCast_zero, List.length_map, List.take_zero, List.flatMap_nil, List.append_nil]
        exact ⟨d, rfl, hg2, hq2, gx2⟩
      clear hal h0 h5 h7 h8 h9 h20 h21 h22 a
      clear hg2 hq2 gx2 g2 g1 hq1 hg1 hTq hg
      rintro m a T hm ⟨⟨d, h5, hg, hTq, hTx⟩, hal, h0, h7, h8, h20, h21, h22, h45, h46, h47⟩
      rcases Nat.lt_or_eq_of_le hm with hmt | rfl
      case inr =>
        rw [List.take_length] at hg
        simp (maxSteps := 1000000) (disch := omega) only [push_cast, ↓wc_seq, ↓wc_block, ↓wc_scope, ↓wc_condL, ↓wc_region, ↓wr_cons, ↓wr_consgL, ↓wr_nil, ↓wo_pickL, ↓wo_callf, ↓wc_exit, ↓wc_ret, ↓wc_skip, ↓wc_wl, wo_some, wo_none, wo_ite, opQ_eq, seqQ_normal, seqQ_exit, seqQ_ret, blockQ_normal, blockQ_exit, blockQ_ret, iterQ_normal, iterQ_exit, iterQ_ret, retQ_normal, retQ_ret, retQ_exit, pickC_true, pickC_false, pickO_true, pickO_false, gstep_tt, gstep_ff, gstep_tf, gstep_ft, gstep_skip, int_bne, int_beq, decide_not, Nat.reduceAdd, Nat.reduceMul, Nat.reduceSub, Nat.reducePow, Nat.reduceLT, Nat.reduceLeDiff, Nat.reduceEqDiff, Int.reduceToNat, Int.reduceAdd, Int.reduceSub, Int.reduceNeg, Int.reduceMul, Int.reduceLT, Int.reduceLE, Int.reduceEq, le_max, ↓wo_build, ↓wo_buildSlice, evParts, ↓reduceIte, planIds, hasExt, cntFs, idxFs, clnFs, ovlFs, List.contains_cons, List.contains_nil, List.any_cons, List.any_nil, Nat.reduceBEq, setC, List.length_set, decide_eq_true_eq, decide_eq_false_iff_not, true_implies, false_implies, forall_const, reduceCtorEq, eq_self, Int.natCast_nonneg, Int.toNat_natCast, Int.ofNat_lt, D.int.injEq, Option.some.injEq, Nat.zero_add, Nat.add_zero, bne_iff_ne, bne_eq_false_iff_eq, beq_iff_eq, beq_eq_false_iff_ne, gt_iff_lt, ne_eq, not_true_eq_false, not_false_eq_true, hal, h0, h5, h7, h8, h20, h21, h22, h45, h46, h47, Int.lt_irrefl]
        exact ⟨d, rfl, hg, hTq, hTx⟩
      have hmc : (m : Int) < c.cabs.length := by omega
      obtain ⟨y, hy⟩ : ∃ y, c.cabs[m]? = some y := ⟨c.cabs[m], by simp⟩
      have hyo := hco.cab y (List.mem_of_getElem? hy)
      have hy1 := hyo.l1
      have hy2 := hyo.l2
      have hflen := cabs_len (x := x) (i := i) c.cabs m (by omega)
      have hfs := flat_succ (f := cabB x i) hy
      refine wc_scut (fun a W => W = T ∧ a.length = 96 ∧ a[0]? = some (.sl 2 (cfgs.map Cfg.enc) cx) ∧ a[5]? = some (d) ∧ a[7]? = some (.loc V.length 0 0) ∧ a[8]? = some (.str (atS i)) ∧ a[20]? = some (.os q 0 l.length false) ∧ a[21]? = some (.int .i64 l.length) ∧ a[22]? = some (.int .i64 i) ∧ a[45]? = some (.sl 4 (c.cabs.map Cab.enc) c.cabsx) ∧ a[46]? = some (.int .i64 c.cabs.length) ∧ a[47]? = some (.int .i64 m) ∧ a[48]? = some (.bool true)) ?_ ?_
      · simp (maxSteps := 1000000) (disch := omega) only [push_cast, ↓wc_seq, ↓wc_block, ↓wc_scope, ↓wc_condL, ↓wc_region, ↓wr_cons, ↓wr_consgL, ↓wr_nil, ↓wo_pickL, ↓wo_callf, ↓wc_exit, ↓wc_ret, ↓wc_skip, ↓wc_wl, wo_some, wo_none, wo_ite, opQ_eq, seqQ_normal, seqQ_exit, seqQ_ret, blockQ_normal, blockQ_exit, blockQ_ret, iterQ_normal, iterQ_exit, iterQ_ret, retQ_normal, retQ_ret, retQ_exit, pickC_true, pickC_false, pickO_true, pickO_false, gstep_tt, gstep_ff, gstep_tf, gstep_ft, gstep_skip, int_bne, int_beq, decide_not, Nat.reduceAdd, Nat.reduceMul, Nat.reduceSub, Nat.reducePow, Nat.reduceLT, Nat.reduceLeDiff, Nat.reduceEqDiff, Int.reduceToNat, Int.reduceAdd, Int.reduceSub, Int.reduceNeg, Int.reduceMul, Int.reduceLT, Int.reduceLE, Int.reduceEq, le_max, ↓wo_build, ↓wo_buildSlice, evParts, ↓reduceIte, planIds, hasExt, cntFs, idxFs, clnFs, ovlFs, List.contains_cons, List.contains_nil, List.any_cons, List.any_nil, Nat.reduceBEq, setC, List.length_set, decide_eq_true_eq, decide_eq_false_iff_not, true_implies, false_implies, forall_const, reduceCtorEq, eq_self, Int.natCast_nonneg, Int.toNat_natCast, Int.ofNat_lt, D.int.injEq, Option.some.injEq, Nat.zero_add, Nat.add_zero, bne_iff_ne, bne_eq_false_iff_eq, beq_iff_eq, beq_eq_false_iff_ne, gt_iff_lt, ne_eq, not_true_eq_false, not_false_eq_true, hal, h0, h5, h7, h8, h20, h21, h22, h45, h46, h47, hmc]
      clear hal h0 h5 h7 h8 h20 h21 h22 h45 h46 h47 a
      rintro a W ⟨rfl, hal, h0, h5, h7, h8, h20, h21, h22, h45, h46, h47, h48⟩
      refine wc_scut (fun a T => T = W ∧ a.length = 96 ∧ a[0]? = some (.sl 2 (cfgs.map Cfg.enc) cx) ∧ a[5]? = some (d) ∧ a[7]? = some (.loc V.length 0 0) ∧ a[8]? = some (.str (atS i)) ∧ a[20]? = some (.os q 0 l.length false) ∧ a[21]? = some (.int .i64 l.length) ∧ a[22]? = some (.int .i64 i) ∧ a[45]? = some (.sl 4 (c.cabs.map Cab.enc) c.cabsx) ∧ a[46]? = some (.int .i64 c.cabs.length) ∧ a[47]? = some (.int .i64 m)) ?_ ?_
      · simp (maxSteps := 1000000) (disch := omega) only [push_cast, ↓wc_seq, ↓wc_block, ↓wc_scope, ↓wc_condL, ↓wc_region, ↓wr_cons, ↓wr_consgL, ↓wr_nil, ↓wo_pickL, ↓wo_callf, ↓wc_exit, ↓wc_ret, ↓wc_skip, ↓wc_wl, wo_some, wo_none, wo_ite, opQ_eq, seqQ_normal, seqQ_exit, seqQ_ret, blockQ_normal, blockQ_exit, blockQ_ret, iterQ_normal, iterQ_exit, iterQ_ret, retQ_normal, retQ_ret, retQ_exit, pickC_true, pickC_false, pickO_true, pickO_false, gstep_tt, gstep_ff, gstep_tf, gstep_ft, gstep_skip, int_bne, int_beq, decide_not, Nat.reduceAdd, Nat.reduceMul, Nat.reduceSub, Nat.reducePow, Nat.reduceLT, Nat.reduceLeDiff, Nat.reduceEqDiff, Int.reduceToNat, Int.reduceAdd, Int.reduceSub, Int.reduceNeg, Int.reduceMul, Int.reduceLT, Int.reduceLE, Int.reduceEq, le_max, ↓wo_build, ↓wo_buildSlice, evParts, ↓reduceIte, planIds, hasExt, cntFs, idxFs, clnFs, ovlFs, List.contains_cons, List.contains_nil, List.any_cons, List.any_nil, Nat.reduceBEq, setC, List.length_set, decide_eq_true_eq, decide_eq_false_iff_not, true_implies, false_implies, forall_const, reduceCtorEq, eq_self, Int.natCast_nonneg, Int.toNat_natCast, Int.ofNat_lt, D.int.injEq, Option.some.injEq, Nat.zero_add, Nat.add_zero, bne_iff_ne, bne_eq_false_iff_eq, beq_iff_eq, beq_eq_false_iff_ne, gt_iff_lt, ne_eq, not_true_eq_false, not_false_eq_true, hal, h0, h5, h7, h8, h20, h21, h22, h45, h46, h47, h48]
      clear hal h0 h5 h7 h8 h20 h21 h22 h45 h46 h47 h48 a
      rintro a T ⟨rfl, hal, h0, h5, h7, h8, h20, h21, h22, h45, h46, h47⟩
      rw [wc_seq, wc_block]
      obtain ⟨S3, hS3⟩ : ∃ S3, S3 = T ++ [Ob.row 4 [y.enc]] := ⟨_, rfl⟩
      have g3 : S3[T.length]? = some (.row 4 [y.enc]) := by rw [hS3]; exact get_end
      have hq3 : S3[q]? = some (.row 7 (l.map Ld.enc)) := by rw [hS3]; exact get_old hTq
      have hx3 : S3[V.length]? = some (.row 7 [x.enc]) := by rw [hS3]; exact get_old hTx
      have hg3 : GL 2 encF S3 d (seatL cfgs l i ++ (c.cabs.take m).flatMap (cabB x i)) := by rw [hS3]; exact hg.push _
      refine wc_scut (fun a W => W = S3 ∧ a.length = 96 ∧ a[0]? = some (.sl 2 (cfgs.map Cfg.enc) cx) ∧ a[5]? = some (d) ∧ a[7]? = some (.loc V.length 0 0) ∧ a[8]? = some (.str (atS i)) ∧ a[12]? = some (.loc T.length 0 0) ∧ a[20]? = some (.os q 0 l.length false) ∧ a[21]? = some (.int .i64 l.length) ∧ a[22]? = some (.int .i64 i) ∧ a[45]? = some (.sl 4 (c.cabs.map Cab.enc) c.cabsx) ∧ a[46]? = some (.int .i64 c.cabs.length) ∧ a[47]? = some (.int .i64 m)) ?_ ?_
      · simp (maxSteps := 1000000) (disch := omega) only [push_cast, ↓wc_seq, ↓wc_block, ↓wc_scope, ↓wc_condL, ↓wc_region, ↓wr_cons, ↓wr_consgL, ↓wr_nil, ↓wo_pickL, ↓wo_callf, ↓wc_exit, ↓wc_ret, ↓wc_skip, ↓wc_wl, wo_some, wo_none, wo_ite, opQ_eq, seqQ_normal, seqQ_exit, seqQ_ret, blockQ_normal, blockQ_exit, blockQ_ret, iterQ_normal, iterQ_exit, iterQ_ret, retQ_normal, retQ_ret, retQ_exit, pickC_true, pickC_false, pickO_true, pickO_false, gstep_tt, gstep_ff, gstep_tf, gstep_ft, gstep_skip, int_bne, int_beq, decide_not, Nat.reduceAdd, Nat.reduceMul, Nat.reduceSub, Nat.reducePow, Nat.reduceLT, Nat.reduceLeDiff, Nat.reduceEqDiff, Int.reduceToNat, Int.reduceAdd, Int.reduceSub, Int.reduceNeg, Int.reduceMul, Int.reduceLT, Int.reduceLE, Int.reduceEq, le_max, ↓wo_build, ↓wo_buildSlice, evParts, ↓reduceIte, planIds, hasExt, cntFs, idxFs, clnFs, ovlFs, List.contains_cons, List.contains_nil, List.any_cons, List.any_nil, Nat.reduceBEq, setC, List.length_set, decide_eq_true_eq, decide_eq_false_iff_not, true_implies, false_implies, forall_const, reduceCtorEq, eq_self, Int.natCast_nonneg, Int.toNat_natCast, Int.ofNat_lt, D.int.injEq, Option.some.injEq, Nat.zero_add, Nat.add_zero, bne_iff_ne, bne_eq_false_iff_eq, beq_iff_eq, beq_eq_false_iff_ne, gt_iff_lt, ne_eq, not_true_eq_false, not_false_eq_true, hal, h0, h5, h7, h8, h20, h21, h22, h45, h46, h47, hmt, hy, get_end, set_end, List.length_map, List.getElem?_map, Option.map_some, Cab.enc]
        exact hS3.symm
      clear hal h0 h5 h7 h8 h20 h21 h22 h45 h46 h47 a
      rintro a W ⟨rfl, hal, h0, h5, h7, h8, h12, h20, h21, h22, h45, h46, h47⟩
      refine wc_scut (fun a X => X = W ∧ a.length = 96 ∧ a[0]? = some (.sl 2 (cfgs.map Cfg.enc) cx) ∧ a[5]? = some (d) ∧ a[7]? = some (.loc V.length 0 0) ∧ a[8]? = some (.str (atS i)) ∧ a[12]? = some (.loc T.length 0 0) ∧ a[13]? = some (.nils) ∧ a[20]? = some (.os q 0 l.length false) ∧ a[21]? = some (.int .i64 l.length) ∧ a[22]? = some (.int .i64 i) ∧ a[45]? = some (.sl 4 (c.cabs.map Cab.enc) c.cabsx) ∧ a[46]? = some (.int .i64 c.cabs.length) ∧ a[47]? = some (.int .i64 m)) ?_ ?_
      · simp (maxSteps := 1000000) (disch := omega) only [push_cast, ↓wc_seq, ↓wc_block, ↓wc_scope, ↓wc_condL, ↓wc_region, ↓wr_cons, ↓wr_consgL, ↓wr_nil, ↓wo_pickL, ↓wo_callf, ↓wc_exit, ↓wc_ret, ↓wc_skip, ↓wc_wl, wo_some, wo_none, wo_ite, opQ_eq, seqQ_normal, seqQ_exit, seqQ_ret, blockQ_normal, blockQ_exit, blockQ_ret, iterQ_normal, iterQ_exit, iterQ_ret, retQ_normal, retQ_ret, retQ_exit, pickC_true, pickC_false, pickO_true, pickO_false, gstep_tt, gstep_ff, gstep_tf, gstep_ft, gstep_skip, int_bne, int_beq, decide_not, Nat.reduceAdd, Nat.reduceMul, Nat.reduceSub, Nat.reducePow, Nat.reduceLT, Nat.reduceLeDiff, Nat.reduceEqDiff, Int.reduceToNat, Int.reduceAdd, Int.reduceSub, Int.reduceNeg, Int.reduceMul, Int.reduceLT, Int.reduceLE, Int.reduceEq, le_max, ↓wo_build, ↓wo_buildSlice, evParts, ↓reduceIte, planIds, hasExt, cntFs, idxFs, clnFs, ovlFs, List.contains_cons, List.contains_nil, List.any_cons, List.any_nil, Nat.reduceBEq, setC, List.length_set, decide_eq_true_eq, decide_eq_false_iff_not, true_implies, false_implies, forall_const, reduceCtorEq, eq_self, Int.natCast_nonneg, Int.toNat_natCast, Int.ofNat_lt, D.int.injEq, Option.some.injEq, Nat.zero_add, Nat.add_zero, bne_iff_ne, bne_eq_false_iff_eq, beq_iff_eq, beq_eq_false_iff_ne, gt_iff_lt, ne_eq, not_true_eq_false, not_false_eq_true, hal, h0, h5, h7, h8, h12, h20, h21, h22, h45, h46, h47]
      clear hal h0 h5 h7 h8 h12 h20 h21 h22 h45 h46 h47 a
      rintro a X ⟨rfl, hal, h0, h5, h7, h8, h12, h13, h20, h21, h22, h45, h46, h47⟩
      refine wc_scut (fun a Y => (∃ dz, a[13]? = some dz ∧ GL 1 encZ Y dz (nums x y) ∧ GL 2 encF Y d (seatL cfgs l i ++ (c.cabs.take m).flatMap (cabB x i)) ∧ Y[q]? = some (.row 7 (l.map Ld.enc)) ∧ Y[V.length]? = some (.row 7 [x.enc]) ∧ Y[T.length]? = some (.row 4 [y.enc])) ∧ a.length = 96 ∧ a[0]? = some (.sl 2 (cfgs.map Cfg.enc) cx) ∧ a[5]? = some (d) ∧ a[7]? = some (.loc V.length 0 0) ∧ a[8]? = some (.str (atS i)) ∧ a[12]? = some (.loc T.length 0 0) ∧ a[20]? = some (.os q 0 l.length false) ∧ a[21]? = some (.int .i64 l.length) ∧ a[22]? = some (.int .i64 i) ∧ a[45]? = some (.sl 4 (c.cabs.map Cab.enc) c.cabsx) ∧ a[46]? = some (.int .i64 c.cabs.length) ∧ a[47]? = some (.int .i64 m)) ?_ ?_
      · simp only [Cab.enc] at g3
        simp (maxSteps := 1000000) (disch := omega) only [push_cast, ↓wc_seq, ↓wc_block, ↓wc_scope, ↓wc_condL, ↓wc_region, ↓wr_cons, ↓wr_consgL, ↓wr_nil, ↓wo_pickL, ↓wo_callf, ↓wc_exit, ↓wc_ret, ↓wc_skip, ↓wc_wl, wo_some, wo_none, wo_ite, opQ_eq, seqQ_normal, seqQ_exit, seqQ_ret, blockQ_normal, blockQ_exit, blockQ_ret, iterQ_normal, iterQ_exit, iterQ_ret, retQ_normal, retQ_ret, retQ_exit, pickC_true, pickC_false, pickO_true, pickO_false, gstep_tt, gstep_ff, gstep_tf, gstep_ft, gstep_skip, int_bne, int_beq, decide_not, Nat.reduceAdd, Nat.reduceMul, Nat.reduceSub, Nat.reducePow, Nat.reduceLT, Nat.reduceLeDiff, Nat.reduceEqDiff, Int.reduceToNat, Int.reduceAdd, Int.reduceSub, Int.reduceNeg, Int.reduceMul, Int.reduceLT, Int.reduceLE, Int.reduceEq, le_max, ↓wo_build, ↓wo_buildSlice, evParts, ↓reduceIte, planIds, hasExt, cntFs, idxFs, clnFs, ovlFs, List.contains_cons, List.contains_nil, List.any_cons, List.any_nil, Nat.reduceBEq, setC, List.length_set, decide_eq_true_eq, decide_eq_false_iff_not, true_implies, false_implies, forall_const, reduceCtorEq, eq_self, Int.natCast_nonneg, Int.toNat_natCast, Int.ofNat_lt, D.int.injEq, Option.some.injEq, Nat.zero_add, Nat.add_zero, bne_iff_ne, bne_eq_false_iff_eq, beq_iff_eq, beq_eq_false_iff_ne, gt_iff_lt, ne_eq, not_true_eq_false, not_false_eq_true, hal, h0, h5, h7, h8, h12, h13, h20, h21, h22, h45, h46, h47, g3, List.length_map]
        refine wl_loop (fun j a Y => (∃ dz, a[13]? = some dz ∧ GL 1 encZ Y dz ((nums x y).take j) ∧ GL 2 encF Y d (seatL cfgs l i ++ (c.cabs.take m).flatMap (cabB x i)) ∧ Y[q]? = some (.row 7 (l.map Ld.enc)) ∧ Y[V.length]? = some (.row 7 [x.enc]) ∧ Y[T.length]? = some (.row 4 [y.enc])) ∧ a.length = 96 ∧ a[0]? = some (.sl 2 (cfgs.map Cfg.enc) cx) ∧ a[5]? = some (d) ∧ a[7]? = some (.loc V.length 0 0) ∧ a[8]? = some (.str (atS i)) ∧ a[12]? = some (.loc T.length 0 0) ∧ a[20]? = some (.os q 0 l.length false) ∧ a[21]? = some (.int .i64 l.length) ∧ a[22]? = some (.int .i64 i) ∧ a[45]? = some (.sl 4 (c.cabs.map Cab.enc) c.cabsx) ∧ a[46]? = some (.int .i64 c.cabs.length) ∧ a[47]? = some (.int .i64 m) ∧ a[52]? = some (.sl 2 (y.cls.map Cls.enc) y.clsx) ∧ a[53]? = some (.int .i64 y.cls.length) ∧ a[54]? = some (.int .i64 j)) y.cls.length ?_ (by omega) ?_
        · simp (maxSteps := 1000000) (disch := omega) only [push_cast, ↓wc_seq, ↓wc_block, ↓wc_scope, ↓wc_condL, ↓wc_region, ↓wr_cons, ↓wr_consgL, ↓wr_nil, ↓wo_pickL, ↓wo_callf, ↓wc_exit, ↓wc_ret, ↓wc_skip, ↓wc_wl, wo_some, wo_none, wo_ite, opQ_eq, seqQ_normal, seqQ_exit, seqQ_ret, blockQ_normal, blockQ_exit, blockQ_ret, iterQ_normal, iterQ_exit, iterQ_ret, retQ_normal, retQ_ret, retQ_exit, pickC_true, pickC_false, pickO_true, pickO_false, gstep_tt, gstep_ff, gstep_tf, gstep_ft, gstep_skip, int_bne, int_beq, decide_not, Nat.reduceAdd, Nat.reduceMul, Nat.reduceSub, Nat.reducePow, Nat.reduceLT, Nat.reduceLeDiff, Nat.reduceEqDiff, Int.reduceToNat, Int.reduceAdd, Int.reduceSub, Int.reduceNeg, Int.reduceMul, Int.reduceLT, Int.reduceLE, Int.reduceEq, le_max, ↓wo_build, ↓wo_buildSlice, evParts, ↓reduceIte, planIds, hasExt, cntFs, idxFs, clnFs, ovlFs, List.contains_cons, List.contains_nil, List.any_cons, List.any_nil, Nat.reduceBEq, setC, List.length_set, decide_eq_true_eq, decide_eq_false_iff_not, true_implies, false_implies, forall_const, reduceCtorEq, eq_self, Int.natCast_nonneg, Int.toNat_natCast, Int.ofNat_lt, D.int.injEq, Option.some.injEq, Nat.zero_add, Nat.add_zero, bne_iff_ne, bne_eq_false_iff_eq, beq_iff_eq, beq_eq_false_iff_ne, gt_iff_lt, ne_eq, not_true_eq_false, not_false_eq_true, hal, h0, h5, h7, h8, h12, h13, h20, h21, h22, h45, h46, h47, Int.natCast_zero, List.length_map, List.take_zero]
          exact ⟨_, rfl, GL.nil, hg3, hq3, hx3, g3⟩
        clear hal h0 h5 h7 h8 h12 h13 h20 h21 h22 h45 h46 h47 a
        clear hg3 hq3 hx3 g3 hg hTq hTx
        rintro j a Y hj ⟨⟨dz, h13, hz, hg, hYq, hYx, hYy⟩, hal, h0, h5, h7, h8, h12, h20, h21, h22, h45, h46, h47, h52, h53, h54⟩
        rcases Nat.lt_or_eq_of_le hj with hjt | rfl
        case inr =>
          have : (nums x y).take y.cls.length = nums x y := List.take_of_length_le (by unfold nums; rw [List.length_map]; exact Nat.le_refl _)
          rw [this] at hz
          simp (maxSteps := 1000000) (disch := omega) only [push_cast, ↓wc_seq, ↓wc_block, ↓wc_scope, ↓wc_condL, ↓wc_region, ↓wr_cons, ↓wr_consgL, ↓wr_nil, ↓wo_pickL, ↓wo_callf, ↓wc_exit, ↓wc_ret, ↓wc_skip, ↓wc_wl, wo_some, wo_none, wo_ite, opQ_eq, seqQ_normal, seqQ_exit, seqQ_ret, blockQ_normal, blockQ_exit, blockQ_ret, iterQ_normal, iterQ_exit, iterQ_ret, retQ_normal, retQ_ret, retQ_exit, pickC_true, pickC_false, pickO_true, pickO_false, gstep_tt, gstep_ff, gstep_tf, gstep_ft, gstep_skip, int_bne, int_beq, decide_not, Nat.reduceAdd, Nat.reduceMul, Nat.reduceSub, Nat.reducePow, Nat.reduceLT, Nat.reduceLeDiff, Nat.reduceEqDiff, Int.reduceToNat, Int.reduceAdd, Int.reduceSub, Int.reduceNeg, Int.reduceMul, Int.reduceLT, Int.reduceLE, Int.reduceEq, le_max, ↓wo_build, ↓wo_buildSlice, evParts, ↓reduceIte, planIds, hasExt, cntFs, idxFs, clnFs, ovlFs, List.contains_cons, List.contains_nil, List.any_cons, List.any_nil, Nat.reduceBEq, setC, List.length_set, decide_eq_true_eq, decide_eq_false_iff_not, true_implies, false_implies, forall_const, reduceCtorEq, eq_self, Int.natCast_nonneg, Int.toNat_natCast, Int.ofNat_lt, D.int.injEq, Option.some.injEq, Nat.zero_add, Nat.add_zero, bne_iff_ne, bne_eq_false_iff_eq, beq_iff_eq, beq_eq_false_iff_ne, gt_iff_lt, ne_eq, not_true_eq_false, not_false_eq_true, hal, h0, h5, h7, h8, h12, h13, h20, h21, h22, h45, h46, h47, h52, h53, h54, Int.lt_irrefl]
          exact ⟨dz, rfl, hz, hg, hYq, hYx, hYy⟩
        have hjc : (j : Int) < y.cls.length := by omega
        obtain ⟨z, hzz⟩ : ∃ z, y.cls[j]? = some z := ⟨y.cls[j], by simp⟩
        have cnt := fun st S => count_c (n := n) (lx := x.soldx) (by omega) k1 z.code st S
        have hnum : (nums x y)[j]? = some (cntF x.sold z.code) := by unfold nums; rw [List.getElem?_map, hzz]; rfl
        have htk : (nums x y).take (j + 1) = (nums x y).take j ++ [cntF x.sold z.code] := by rw [List.take_add_one, hnum]; rfl
        obtain ⟨S4, hS4⟩ : ∃ S4, S4 = Y ++ [Ob.row 2 [z.enc]] := ⟨_, rfl⟩
        have ka0 : KeepA Y S4 := by rw [hS4]; exact KeepA.push _
        have g4 : S4[Y.length]? = some (.row 2 [z.enc]) := by rw [hS4]; exact get_end
        have hz4 : GL 1 encZ S4 dz ((nums x y).take j) := by rw [hS4]; exact hz.push _
        have hg4 : GL 2 encF S4 d (seatL cfgs l i ++ (c.cabs.take m).flatMap (cabB x i)) := by rw [hS4]; exact hg.push _
        obtain ⟨dz', S5, pz, hz5, ka, kg⟩ := app_n hz4 (by rw [List.length_take]; omega) (cntF x.sold z.code)
        have ka2 := ka0.trans ka
        have hq5 := ka2 q 7 _ (by omega) (nf7 _) hYq
        have hx5 := ka2 V.length 7 _ (by omega) (nf7 _) hYx
        have hy5 := ka2 T.length 4 _ (by omega) (nf4 _) hYy
        have hx4 := ka0 V.length 7 _ (by omega) (nf7 _) hYx
        have hg5 := kg _ _ hg4
        rw [← htk] at hz5
        simp only [Ld.enc] at hx4
        simp only [Cls.enc] at g4
        refine wc_scut (fun a W => W = Y ∧ a.length = 96 ∧ a[0]? = some (.sl 2 (cfgs.map Cfg.enc) cx) ∧ a[5]? = some (d) ∧ a[7]? = some (.loc V.length 0 0) ∧ a[8]? = some (.str (atS i)) ∧ a[12]? = some (.loc T.length 0 0) ∧ a[13]? = some (dz) ∧ a[20]? = some (.os q 0 l.length false) ∧ a[21]? = some (.int .i64 l.length) ∧ a[22]? = some (.int .i64 i) ∧ a[45]? = some (.sl 4 (c.cabs.map Cab.enc) c.cabsx) ∧ a[46]? = some (.int .i64 c.cabs.length) ∧ a[47]? = some (.int .i64 m) ∧ a[52]? = some (.sl 2 (y.cls.map Cls.enc) y.clsx) ∧ a[53]? = some (.int .i64 y.cls.length) ∧ a[54]? = some (.int .i64 j) ∧ a[55]? = some (.bool true)) ?_ ?_
        · simp (maxSteps := 1000000) (disch := omega) only [push_cast, ↓wc_seq, ↓wc_block, ↓wc_scope, ↓wc_condL, ↓wc_region, ↓wr_cons, ↓wr_consgL, ↓wr_nil, ↓wo_pickL, ↓wo_callf, ↓wc_exit, ↓wc_ret, ↓wc_skip, ↓wc_wl, wo_some, wo_none, wo_ite, opQ_eq, seqQ_normal, seqQ_exit, seqQ_ret, blockQ_normal, blockQ_exit, blockQ_ret, iterQ_normal, iterQ_exit, iterQ_ret, retQ_normal, retQ_ret, retQ_exit, pickC_true, pickC_false, pickO_true, pickO_false, gstep_tt, gstep_ff, gstep_tf, gstep_ft, gstep_skip, int_bne, int_beq, decide_not, Nat.reduceAdd, Nat.reduceMul, Nat.reduceSub, Nat.reducePow, Nat.reduceLT, Nat.reduceLeDiff, Nat.reduceEqDiff, Int.reduceToNat, Int.reduceAdd, Int.reduceSub, Int.reduceNeg, Int.reduceMul, Int.reduceLT, Int.reduceLE, Int.reduceEq, le_max, ↓wo_build, ↓wo_buildSlice, evParts, ↓reduceIte, planIds, hasExt, cntFs, idxFs, clnFs, ovlFs, List.contains_cons, List.contains_nil, List.any_cons, List.any_nil, Nat.reduceBEq, setC, List.length_set, decide_eq_true_eq, decide_eq_false_iff_not, true_implies, false_implies, forall_const, reduceCtorEq, eq_self, Int.natCast_nonneg, Int.toNat_natCast, Int.ofNat_lt, D.int.injEq, Option.some.injEq, Nat.zero_add, Nat.add_zero, bne_iff_ne, bne_eq_false_iff_eq, beq_iff_eq, beq_eq_false_iff_ne, gt_iff_lt, ne_eq, not_true_eq_false, not_false_eq_true, hal, h0, h5, h7, h8, h12, h13, h20, h21, h22, h45, h46, h47, h52, h53, h54, hjc]
        clear hal h0 h5 h7 h8 h12 h13 h20 h21 h22 h45 h46 h47 h52 h53 h54 a
        rintro a Z ⟨rfl, hal, h0, h5, h7, h8, h12, h13, h20, h21, h22, h45, h46, h47, h52, h53, h54, h55⟩
        refine wc_scut (fun a W => W = Z ∧ a.length = 96 ∧ a[0]? = some (.sl 2 (cfgs.map Cfg.enc) cx) ∧ a[5]? = some (d) ∧ a[7]? = some (.loc V.length 0 0) ∧ a[8]? = some (.str (atS i)) ∧ a[12]? = some (.loc T.length 0 0) ∧ a[13]? = some (dz) ∧ a[20]? = some (.os q 0 l.length false) ∧ a[21]? = some (.int .i64 l.length) ∧ a[22]? = some (.int .i64 i) ∧ a[45]? = some (.sl 4 (c.cabs.map Cab.enc) c.cabsx) ∧ a[46]? = some (.int .i64 c.cabs.length) ∧ a[47]? = some (.int .i64 m) ∧ a[52]? = some (.sl 2 (y.cls.map Cls.enc) y.clsx) ∧ a[53]? = some (.int .i64 y.cls.length) ∧ a[54]? = some (.int .i64 j)) ?_ ?_
        · simp (maxSteps := 1000000) (disch := omega) only [push_cast, ↓wc_seq, ↓wc_block, ↓wc_scope, ↓wc_condL, ↓wc_region, ↓wr_cons, ↓wr_consgL, ↓wr_nil, ↓wo_pickL, ↓wo_callf, ↓wc_exit, ↓wc_ret, ↓wc_skip, ↓wc_wl, wo_some, wo_none, wo_ite, opQ_eq, seqQ_normal, seqQ_exit, seqQ_ret, blockQ_normal, blockQ_exit, blockQ_ret, iterQ_normal, iterQ_exit, iterQ_ret, retQ_normal, retQ_ret, retQ_exit, pickC_true, pickC_false, pickO_true, pickO_false, gstep_tt, gstep_ff, gstep_tf, gstep_ft, gstep_skip, int_bne, int_beq, decide_not, Nat.reduceAdd, Nat.reduceMul, Nat.reduceSub, Nat.reducePow, Nat.reduceLT, Nat.reduceLeDiff, Nat.reduceEqDiff, Int.reduceToNat, Int.reduceAdd, Int.reduceSub, Int.reduceNeg, Int.reduceMul, Int.reduceLT, Int.reduceLE, Int.reduceEq, le_max, ↓wo_build, ↓wo_buildSlice, evParts, ↓reduceIte, planIds, hasExt, cntFs, idxFs, clnFs, ovlFs, List.contains_cons, List.contains_nil, List.any_cons, List.any_nil, Nat.reduceBEq, setC, List.length_set, decide_eq_true_eq, decide_eq_false_iff_not, true_implies, false_implies, forall_const, reduceCtorEq, eq_self, Int.natCast_nonneg, Int.toNat_natCast, Int.ofNat_lt, D.int.injEq, Option.some.injEq, Nat.zero_add, Nat.add_zero, bne_iff_ne, bne_eq_false_iff_eq, beq_iff_eq, beq_eq_false_iff_ne, gt_iff_lt, ne_eq, not_true_eq_false, not_false_eq_true, hal, h0, h5, h7, h8, h12, h13, h20, h21, h22, h45, h46, h47, h52, h53, h54, h55]
        clear hal h0 h5 h7 h8 h12 h13 h20 h21 h22 h45 h46 h47 h52 h53 h54 h55 a
        rintro a Y ⟨rfl, hal, h0, h5, h7, h8, h12, h13, h20, h21, h22, h45, h46, h47, h52, h53, h54⟩
        rw [wc_seq, wc_block]
        refine wc_scut (fun a W => W = S4 ∧ a.length = 96 ∧ a[0]? = some (.sl 2 (cfgs.map Cfg.enc) cx) ∧ a[5]? = some (d) ∧ a[7]? = some (.loc V.length 0 0) ∧ a[8]? = some (.str (atS i)) ∧ a[12]? = some (.loc T.length 0 0) ∧ a[13]? = some (dz) ∧ a[15]? = some (.loc Y.length 0 0) ∧ a[20]? = some (.os q 0 l.length false) ∧ a[21]? = some (.int .i64 l.length) ∧ a[22]? = some (.int .i64 i) ∧ a[45]? = some (.sl 4 (c.cabs.map Cab.enc) c.cabsx) ∧ a[46]? = some (.int .i64 c.cabs.length) ∧ a[47]? = some (.int .i64 m) ∧ a[52]? = some (.sl 2 (y.cls.map Cls.enc) y.clsx) ∧ a[53]? = some (.int .i64 y.cls.length) ∧ a[54]? = some (.int .i64 j)) ?_ ?_
        · simp (maxSteps := 1000000) (disch := omega) only [push_cast, ↓wc_seq, ↓wc_block, ↓wc_scope, ↓wc_condL, ↓wc_region, ↓wr_cons, ↓wr_consgL, ↓wr_nil, ↓wo_pickL, ↓wo_callf, ↓wc_exit, ↓wc_ret, ↓wc_skip, ↓wc_wl, wo_some, wo_none, wo_ite, opQ_eq, seqQ_normal, seqQ_exit, seqQ_ret, blockQ_normal, blockQ_exit, blockQ_ret, iterQ_normal, iterQ_exit, iterQ_ret, retQ_normal, retQ_ret, retQ_exit, pickC_true, pickC_false, pickO_true, pickO_false, gstep_tt, gstep_ff, gstep_tf, gstep_ft, gstep_skip, int_bne, int_beq, decide_not, Nat.reduceAdd, Nat.reduceMul, Nat.reduceSub, Nat.reducePow, Nat.reduceLT, Nat.reduceLeDiff, Nat.reduceEqDiff, Int.reduceToNat, Int.reduceAdd, Int.reduceSub, Int.reduceNeg, Int.reduceMul, Int.reduceLT, Int.reduceLE, Int.reduceEq, le_max, ↓wo_build, ↓wo_buildSlice, evParts, ↓reduceIte, planIds, hasExt, cntFs, idxFs, clnFs, ovlFs, List.contains_cons, List.contains_nil, List.any_cons, List.any_nil, Nat.reduceBEq, setC, List.length_set, decide_eq_true_eq, decide_eq_false_iff_not, true_implies, false_implies, forall_const, reduceCtorEq, eq_self, Int.natCast_nonneg, Int.toNat_natCast, Int.ofNat_lt, D.int.injEq, Option.some.injEq, Nat.zero_add, Nat.add_zero, bne_iff_ne, bne_eq_false_iff_eq, beq_iff_eq, beq_eq_false_iff_ne, gt_iff_lt, ne_eq, not_true_eq_false, not_false_eq_true, hal, h0, h5, h7, h8, h12, h13, h20, h21, h22, h45, h46, h47, h52, h53, h54, hjt, hzz, get_end, set_end, List.length_map, List.getElem?_map, Option.map_some, Cls.enc]
          exact hS4.symm
        clear hal h0 h5 h7 h8 h12 h13 h20 h21 h22 h45 h46 h47 h52 h53 h54 a
        rintro a W ⟨rfl, hal, h0, h5, h7, h8, h12, h13, h15, h20, h21, h22, h45, h46, h47, h52, h53, h54⟩
        simp (maxSteps := 1000000) (disch := omega) only [push_cast, ↓wc_seq, ↓wc_block, ↓wc_scope, ↓wc_condL, ↓wc_region, ↓wr_cons, ↓wr_consgL, ↓wr_nil, ↓wo_pickL, ↓wo_callf, ↓wc_exit, ↓wc_ret, ↓wc_skip, ↓wc_wl, wo_some, wo_none, wo_ite, opQ_eq, seqQ_normal, seqQ_exit, seqQ_ret, blockQ_normal, blockQ_exit, blockQ_ret, iterQ_normal, iterQ_exit, iterQ_ret, retQ_normal, retQ_ret, retQ_exit, pickC_true, pickC_false, pickO_true, pickO_false, gstep_tt, gstep_ff, gstep_tf, gstep_ft, gstep_skip, int_bne, int_beq, decide_not, Nat.reduceAdd, Nat.reduceMul, Nat.reduceSub, Nat.reducePow, Nat.reduceLT, Nat.reduceLeDiff, Nat.reduceEqDiff, Int.reduceToNat, Int.reduceAdd, Int.reduceSub, Int.reduceNeg, Int.reduceMul, Int.reduceLT, Int.reduceLE, Int.reduceEq, le_max, ↓wo_build, ↓wo_buildSlice, evParts, ↓reduceIte, planIds, hasExt, cntFs, idxFs, clnFs, ovlFs, List.contains_cons, List.contains_nil, List.any_cons, List.any_nil, Nat.reduceBEq, setC, List.length_set, decide_eq_true_eq, decide_eq_false_iff_not, true_implies, false_implies, forall_const, reduceCtorEq, eq_self, Int.natCast_nonneg, Int.toNat_natCast, Int.ofNat_lt, D.int.injEq, Option.some.injEq, Nat.zero_add, Nat.add_zero, bne_iff_ne, bne_eq_false_iff_eq, beq_iff_eq, beq_eq_false_iff_ne, gt_iff_lt, ne_eq, not_true_eq_false, not_false_eq_true, hal, h0, h5, h7, h8, h12, h13, h15, h20, h21, h22, h45, h46, h47, h52, h53, h54, hx4, g4, cnt, pz, wrap_ok, Int.natCast_add, Int.natCast_one]
        exact ⟨hjt, dz', rfl, hz5, hg5, hq5, hx5, hy5⟩
      clear hal h0 h5 h7 h8 h12 h13 h20 h21 h22 h45 h46 h47 a
      clear hg3 hq3 hx3 g3 hg hTq hTx
      rintro a Y ⟨⟨dz, h13, hz, hg, hYq, hYx, hYy⟩, hal, h0, h5, h7, h8, h12, h20, h21, h22, h45, h46, h47⟩
      have hnl : (nums x y).length = y.cls.length := by unfold nums; rw [List.length_map]
      obtain ⟨r, rfl, hr⟩ : ∃ r, dz = .os r 0 (nums x y).length false ∧ Y[r]? = some (.row 1 ((nums x y).map encZ)) := by
        rcases hz with ⟨-, e⟩ | ⟨r, e1, e2⟩
        · rw [e] at hnl; simp at hnl; omega
        · exact ⟨r, e1, e2⟩
      obtain ⟨J, cfit⟩ := Fits_c (n := n) (y := y) (by omega) hyo hnl hr
      have hgJ : GL 2 encF (Y ++ J) d (seatL cfgs l i ++ (c.cabs.take m).flatMap (cabB x i)) := hg.ext Gw.ExtS.app
      obtain ⟨d', T', p1, q1, g1, k1'⟩ := app_if hgJ (by rw [List.length_append]; omega) (!fitB y (nums x y)) 11 (atS i)
      have hq1 := k1' q _ (nf7 _) (get_old hYq)
      have hx1 := k1' V.length _ (nf7 _) (get_old hYx)
      have hlist : seatL cfgs l i ++ (c.cabs.take m).flatMap (cabB x i) ++ ifF (!fitB y (nums x y)) 11 (atS i) = seatL cfgs l i ++ (c.cabs.take (m + 1)).flatMap (cabB x i) := by rw [hfs, List.append_assoc]; rfl
      rw [hlist] at g1
      simp only [Cab.enc] at hYy cfit
      generalize atS i = at0 at *
      cases hb : fitB y (nums x y)
      · rw [hb] at cfit p1
        replace p1 := p1 rfl
        simp (maxSteps := 1000000) (disch := omega) only [push_cast, ↓wc_seq, ↓wc_block, ↓wc_scope, ↓wc_condL, ↓wc_region, ↓wr_cons, ↓wr_consgL, ↓wr_nil, ↓wo_pickL, ↓wo_callf, ↓wc_exit, ↓wc_ret, ↓wc_skip, ↓wc_wl, wo_some, wo_none, wo_ite, opQ_eq, seqQ_normal, seqQ_exit, seqQ_ret, blockQ_normal, blockQ_exit, blockQ_ret, iterQ_normal, iterQ_exit, iterQ_ret, retQ_normal, retQ_ret, retQ_exit, pickC_true, pickC_false, pickO_true, pickO_false, gstep_tt, gstep_ff, gstep_tf, gstep_ft, gstep_skip, int_bne, int_beq, decide_not, Nat.reduceAdd, Nat.reduceMul, Nat.reduceSub, Nat.reducePow, Nat.reduceLT, Nat.reduceLeDiff, Nat.reduceEqDiff, Int.reduceToNat, Int.reduceAdd, Int.reduceSub, Int.reduceNeg, Int.reduceMul, Int.reduceLT, Int.reduceLE, Int.reduceEq, le_max, ↓wo_build, ↓wo_buildSlice, evParts, ↓reduceIte, planIds, hasExt, cntFs, idxFs, clnFs, ovlFs, List.contains_cons, List.contains_nil, List.any_cons, List.any_nil, Nat.reduceBEq, setC, List.length_set, decide_eq_true_eq, decide_eq_false_iff_not, true_implies, false_implies, forall_const, reduceCtorEq, eq_self, Int.natCast_nonneg, Int.toNat_natCast, Int.ofNat_lt, D.int.injEq, Option.some.injEq, Nat.zero_add, Nat.add_zero, bne_iff_ne, bne_eq_false_iff_eq, beq_iff_eq, beq_eq_false_iff_ne, gt_iff_lt, ne_eq, not_true_eq_false, not_false_eq_true, hal, h0, h5, h7, h8, h12, h13, h20, h21, h22, h45, h46, h47, hYy, cfit, p1, dUn, Bool.not_false, wrap_ok, Int.natCast_add, Int.natCast_one]
        exact ⟨hmt, d', rfl, g1, hq1, hx1⟩
      · rw [hb] at cfit q1
        obtain ⟨rfl, rfl⟩ := q1 rfl
        simp (maxSteps := 1000000) (disch := omega) only [push_cast, ↓wc_seq, ↓wc_block, ↓wc_scope, ↓wc_condL, ↓wc_region, ↓wr_cons, ↓wr_consgL, ↓wr_nil, ↓wo_pickL, ↓wo_callf, ↓wc_exit, ↓wc_ret, ↓wc_skip, ↓wc_wl, wo_some, wo_none, wo_ite, opQ_eq, seqQ_normal, seqQ_exit, seqQ_ret, blockQ_normal, blockQ_exit, blockQ_ret, iterQ_normal, iterQ_exit, iterQ_ret, retQ_normal, retQ_ret, retQ_exit, pickC_true, pickC_false, pickO_true, pickO_false, gstep_tt, gstep_ff, gstep_tf, gstep_ft, gstep_skip, int_bne, int_beq, decide_not, Nat.reduceAdd, Nat.reduceMul, Nat.reduceSub, Nat.reducePow, Nat.reduceLT, Nat.reduceLeDiff, Nat.reduceEqDiff, Int.reduceToNat, Int.reduceAdd, Int.reduceSub, Int.reduceNeg, Int.reduceMul, Int.reduceLT, Int.reduceLE, Int.reduceEq, le_max, ↓wo_build, ↓wo_buildSlice, evParts, ↓reduceIte, planIds, hasExt, cntFs, idxFs, clnFs, ovlFs, List.contains_cons, List.contains_nil, List.any_cons, List.any_nil, Nat.reduceBEq, setC, List.length_set, decide_eq_true_eq, decide_eq_false_iff_not, true_implies, false_implies, forall_const, reduceCtorEq, eq_self, Int.natCast_nonneg, Int.toNat_natCast, Int.ofNat_lt, D.int.injEq, Option.some.injEq, Nat.zero_add, Nat.add_zero, bne_iff_ne, bne_eq_false_iff_eq, beq_iff_eq, beq_eq_false_iff_ne, gt_iff_lt, ne_eq, not_true_eq_false, not_false_eq_true, hal, h0, h5, h7, h8, h12, h13, h20, h21, h22, h45, h46, h47, hYy, cfit, dUn, Bool.not_true, wrap_ok, Int.natCast_add, Int.natCast_one]
        exact ⟨hmt, _, rfl, g1, hq1, hx1⟩
    clear hal h0 h5 h7 h8 h9 h20 h21 h22 a
    clear hg2 hq2 gx2 g2 g1 hq1 hg1 hTq hg
    rintro a Y ⟨⟨d, h5, hg, hYq, hYx⟩, hal, h0, h7, h8, h20, h21, h22⟩
    have hcl2 := cabs_len (x := x) (i := i) c.cabs c.cabs.length (Nat.le_refl _)
    rw [List.take_length] at hcl2
    have hl2 := hco.l2
    have cd1 := fun st S => differ_c (n := n) (ux := x.soldx) (vx := x.bookx) (by omega) k1 k2 st S
    have cd2 := fun st S => differ_c (n := n) (ux := x.bookx) (vx := x.soldx) (by omega) k2 k1 st S
    obtain ⟨d', T', p1, q1, g1, k1'⟩ := app_if hg (by rw [List.length_append]; omega) (difB x.sold x.book || difB x.book x.sold) 36 (atS i)
    have hq1 := k1' q _ (nf7 _) hYq
    rw [List.append_assoc, ← hld, ← hs1] at g1
    simp only [Ld.enc] at hYx
    generalize atS i = at0 at *
    cases e1 : difB x.sold x.book
    · cases e2 : difB x.book x.sold
      · rw [e1, e2] at q1
        rw [e1] at cd1
        rw [e2] at cd2
        obtain ⟨rfl, rfl⟩ := q1 rfl
        simp (maxSteps := 1000000) (disch := omega) only [push_cast, ↓wc_seq, ↓wc_block, ↓wc_scope, ↓wc_condL, ↓wc_region, ↓wr_cons, ↓wr_consgL, ↓wr_nil, ↓wo_pickL, ↓wo_callf, ↓wc_exit, ↓wc_ret, ↓wc_skip, ↓wc_wl, wo_some, wo_none, wo_ite, opQ_eq, seqQ_normal, seqQ_exit, seqQ_ret, blockQ_normal, blockQ_exit, blockQ_ret, iterQ_normal, iterQ_exit, iterQ_ret, retQ_normal, retQ_ret, retQ_exit, pickC_true, pickC_false, pickO_true, pickO_false, gstep_tt, gstep_ff, gstep_tf, gstep_ft, gstep_skip, int_bne, int_beq, decide_not, Nat.reduceAdd, Nat.reduceMul, Nat.reduceSub, Nat.reducePow, Nat.reduceLT, Nat.reduceLeDiff, Nat.reduceEqDiff, Int.reduceToNat, Int.reduceAdd, Int.reduceSub, Int.reduceNeg, Int.reduceMul, Int.reduceLT, Int.reduceLE, Int.reduceEq, le_max, ↓wo_build, ↓wo_buildSlice, evParts, ↓reduceIte, planIds, hasExt, cntFs, idxFs, clnFs, ovlFs, List.contains_cons, List.contains_nil, List.any_cons, List.any_nil, Nat.reduceBEq, setC, List.length_set, decide_eq_true_eq, decide_eq_false_iff_not, true_implies, false_implies, forall_const, reduceCtorEq, eq_self, Int.natCast_nonneg, Int.toNat_natCast, Int.ofNat_lt, D.int.injEq, Option.some.injEq, Nat.zero_add, Nat.add_zero, bne_iff_ne, bne_eq_false_iff_eq, beq_iff_eq, beq_eq_false_iff_ne, gt_iff_lt, ne_eq, not_true_eq_false, not_false_eq_true, hal, h0, h5, h7, h8, h20, h21, h22, hYx, cd1, cd2, wrap_ok, Int.natCast_add, Int.natCast_one]
        exact ⟨hlt, _, rfl, g1, hq1⟩
      · rw [e1, e2] at p1
        rw [e1] at cd1
        rw [e2] at cd2
        replace p1 := p1 rfl
        simp (maxSteps := 1000000) (disch := omega) only [push_cast, ↓wc_seq, ↓wc_block, ↓wc_scope, ↓wc_condL, ↓wc_region, ↓wr_cons, ↓wr_consgL, ↓wr_nil, ↓wo_pickL, ↓wo_callf, ↓wc_exit, ↓wc_ret, ↓wc_skip, ↓wc_wl, wo_some, wo_none, wo_ite, opQ_eq, seqQ_normal, seqQ_exit, seqQ_ret, blockQ_normal, blockQ_exit, blockQ_ret, iterQ_normal, iterQ_exit, iterQ_ret, retQ_normal, retQ_ret, retQ_exit, pickC_true, pickC_false, pickO_true, pickO_false, gstep_tt, gstep_ff, gstep_tf, gstep_ft, gstep_skip, int_bne, int_beq, decide_not, Nat.reduceAdd, Nat.reduceMul, Nat.reduceSub, Nat.reducePow, Nat.reduceLT, Nat.reduceLeDiff, Nat.reduceEqDiff, Int.reduceToNat, Int.reduceAdd, Int.reduceSub, Int.reduceNeg, Int.reduceMul, Int.reduceLT, Int.reduceLE, Int.reduceEq, le_max, ↓wo_build, ↓wo_buildSlice, evParts, ↓reduceIte, planIds, hasExt, cntFs, idxFs, clnFs, ovlFs, List.contains_cons, List.contains_nil, List.any_cons, List.any_nil, Nat.reduceBEq, setC, List.length_set, decide_eq_true_eq, decide_eq_false_iff_not, true_implies, false_implies, forall_const, reduceCtorEq, eq_self, Int.natCast_nonneg, Int.toNat_natCast, Int.ofNat_lt, D.int.injEq, Option.some.injEq, Nat.zero_add, Nat.add_zero, bne_iff_ne, bne_eq_false_iff_eq, beq_iff_eq, beq_eq_false_iff_ne, gt_iff_lt, ne_eq, not_true_eq_false, not_false_eq_true, hal, h0, h5, h7, h8, h20, h21, h22, hYx, cd1, cd2, p1, wrap_ok, Int.natCast_add, Int.natCast_one]
        exact ⟨hlt, d', rfl, g1, hq1⟩
    · rw [e1] at cd1 p1
      replace p1 := p1 rfl
      simp (maxSteps := 1000000) (disch := omega) only [push_cast, ↓wc_seq, ↓wc_block, ↓wc_scope, ↓wc_condL, ↓wc_region, ↓wr_cons, ↓wr_consgL, ↓wr_nil, ↓wo_pickL, ↓wo_callf, ↓wc_exit, ↓wc_ret, ↓wc_skip, ↓wc_wl, wo_some, wo_none, wo_ite, opQ_eq, seqQ_normal, seqQ_exit, seqQ_ret, blockQ_normal, blockQ_exit, blockQ_ret, iterQ_normal, iterQ_exit, iterQ_ret, retQ_normal, retQ_ret, retQ_exit, pickC_true, pickC_false, pickO_true, pickO_false, gstep_tt, gstep_ff, gstep_tf, gstep_ft, gstep_skip, int_bne, int_beq, decide_not, Nat.reduceAdd, Nat.reduceMul, Nat.reduceSub, Nat.reducePow, Nat.reduceLT, Nat.reduceLeDiff, Nat.reduceEqDiff, Int.reduceToNat, Int.reduceAdd, Int.reduceSub, Int.reduceNeg, Int.reduceMul, Int.reduceLT, Int.reduceLE, Int.reduceEq, le_max, ↓wo_build, ↓wo_buildSlice, evParts, ↓reduceIte, planIds, hasExt, cntFs, idxFs, clnFs, ovlFs, List.contains_cons, List.contains_nil, List.any_cons, List.any_nil, Nat.reduceBEq, setC, List.length_set, decide_eq_true_eq, decide_eq_false_iff_not, true_implies, false_implies, forall_const, reduceCtorEq, eq_self, Int.natCast_nonneg, Int.toNat_natCast, Int.ofNat_lt, D.int.injEq, Option.some.injEq, Nat.zero_add, Nat.add_zero, bne_iff_ne, bne_eq_false_iff_eq, beq_iff_eq, beq_eq_false_iff_ne, gt_iff_lt, ne_eq, not_true_eq_false, not_false_eq_true, hal, h0, h5, h7, h8, h20, h21, h22, hYx, cd1, p1, wrap_ok, Int.natCast_add, Int.natCast_one]
      exact ⟨hlt, d', rfl, g1, hq1⟩
end
end As
end Go.Proofs.YthkbiiammhekfaaGreatDoor.Dm
