/-
  What the tickets are found to be: the law that both programs follow; lists that grow.
  The machine at the look at tickets.
-/
import Derived.Test.YteffefjkcappbaaDoorTkD
namespace Go.Proofs.YteffefjkcappbaaDoor.Dm
open Go
set_option linter.unusedSimpArgs false

def dotS : ByteArray := ByteArray.mk #[46]
def bokS : ByteArray := ByteArray.mk #[46, 98, 111, 111, 107, 105, 110, 103]
def staS : ByteArray := ByteArray.mk #[46, 115, 116, 97, 116, 101, 115, 46]
noncomputable def atT (i : Nat) : ByteArray := ByteArray.mk #[116, 105, 99, 107, 101, 116, 115, 46] ++ decS i
noncomputable def chT (t : Tk2) : List (Int × ByteArray) := chkF t.n t.l t.a t.b t.c t.cps t.f t.txs t.tot t.iss
def preF (q : ByteArray) (fs : List (Int × ByteArray)) : List (Int × ByteArray) := fs.map fun f => (f.1, q ++ ByteArray.mk #[46] ++ f.2)
def knB (sts : List Stt) (n k st : Int) : Bool :=
  match sts.find? (fun s => decide (s.t = n) && decide (s.c = k)) with
  | some s => decide (s.st = st)
  | none => false
noncomputable def stF (q : ByteArray) (sts : List Stt) (n : Int) : Nat → List Cpn → List (Int × ByteArray)
  | _, [] => []
  | k, c :: l => ifF (!knB sts n k c.st) 10 (q ++ ByteArray.mk #[46, 115, 116, 97, 116, 101, 115, 46] ++ decS k) ++ stF q sts n (k + 1) l
def Tk2.six (t : Tk2) : List Cpn := t.cps.take (min t.cps.length 6)
noncomputable def tkF (bs : List Bk) (sts : List Stt) (prev : List Tk2) (q : ByteArray) (t : Tk2) : List (Int × ByteArray) :=
  preF q (chT t) ++ ifF (!bs.any fun b => b.loc.toList == t.l.toList) 7 (q ++ ByteArray.mk #[46, 98, 111, 111, 107, 105, 110, 103]) ++ ifF (prev.any fun p => decide (p.n = t.n)) 6 q ++ stF q sts t.n 0 t.six
noncomputable def tksF (bs : List Bk) (sts : List Stt) (ts : List Tk2) : Nat → List Tk2 → List (Int × ByteArray)
  | _, [] => []
  | i, t :: l => tkF bs sts (ts.take i) (atT i) t ++ tksF bs sts ts (i + 1) l
theorem preF_len (q : ByteArray) (fs : List (Int × ByteArray)) : (preF q fs).length = fs.length := by simp [preF]
theorem stF_len (q : ByteArray) (sts : List Stt) (n : Int) : ∀ (l : List Cpn) (k : Nat), (stF q sts n k l).length ≤ l.length
  | [], _ => by simp [stF]
  | c :: l, k => by
    have := stF_len q sts n l (k + 1)
    have := ifF_len (!knB sts n k c.st) 10 (q ++ ByteArray.mk #[46, 115, 116, 97, 116, 101, 115, 46] ++ decS k)
    unfold stF
    rw [List.length_append]
    simp only [List.length_cons]
    omega
theorem chkF_len {n f tot iss : Int} {l a b c : ByteArray} {cs : List Cpn} {ts : List Chg} (hcs : cs.length ≤ 20) (hts : ts.length ≤ 20) : (chkF n l a b c cs f ts tot iss).length ≤ 88 := by
  unfold chkF
  have e1 := cpsF_len cs 0
  have e2 := taxesF_len ts 0
  have l1 : ∀ {b e s}, (ifF b e s).length ≤ 1 := fun {b e s} => ifF_len b e s
  have l2 : (if cs.length < 1 ∨ 6 < cs.length then [((4 : Int), ByteArray.mk #[99, 111, 117, 112, 111, 110, 115])] else []).length ≤ 1 := by split <;> simp
  have l3 : (if amtB f = true then ifF ((cpsS 0 true cs).2 && !decide ((cpsS 0 true cs).1 = f)) 36 (ByteArray.mk #[102, 97, 114, 101]) else [(11, ByteArray.mk #[102, 97, 114, 101])]).length ≤ 1 := by
    split
    · exact l1
    · simp
  simp only [List.length_append]
  have m1 := l1 (b := !dnR n) (e := 2) (s := ByteArray.mk #[110, 117, 109, 98, 101, 114])
  have m2 := l1 (b := !locR l) (e := 5) (s := ByteArray.mk #[108, 111, 99, 97, 116, 111, 114])
  have m3 := l1 (b := !nameS a || (!nameS b || !codeS c 3 3)) (e := 5) (s := ByteArray.mk #[112, 101, 114, 115, 111, 110])
  have m4 := l1 (b := (taxS f (amtB f) ts).2 && !decide ((taxS f (amtB f) ts).1 = tot)) (e := 36) (s := ByteArray.mk #[116, 111, 116, 97, 108])
  have m5 := l1 (b := !dayB iss) (e := 12) (s := ByteArray.mk #[105, 115, 115, 117, 101, 100])
  omega
def Short (fs : List (Int × ByteArray)) : Prop := ∀ g ∈ fs, g.2.size ≤ 100
theorem Short.app {a b : List (Int × ByteArray)} (h : Short a) (g : Short b) : Short (a ++ b) := fun x hx => by
  rcases List.mem_append.1 hx with hx | hx
  · exact h x hx
  · exact g x hx
theorem Short.nil : Short [] := fun x hx => by cases hx
theorem Short.one {e : Int} {s : ByteArray} (h : s.size ≤ 100) : Short [(e, s)] := fun x hx => by
  rw [List.mem_singleton] at hx; subst hx; exact h
theorem Short.ifF {b : Bool} {e : Int} {s : ByteArray} (h : s.size ≤ 100) : Short (ifF b e s) := by
  unfold Dm.ifF
  split
  · exact Short.one h
  · exact Short.nil
theorem dec_short {i : Nat} (hi : i < 32) : (decS i).size ≤ 20 := by simpa using List.all_eq_true.1 dec_size i (List.mem_range.2 hi)
theorem cpsF_short : ∀ (l : List Cpn) (i : Nat), i + l.length ≤ 32 → Short (cpsF i l)
  | [], _, _ => Short.nil
  | c :: l, i, h => by
    simp only [List.length_cons] at h
    have hs : (atC i).size ≤ 100 := by
      have := dec_short (i := i) (by omega)
      show (cpS ++ decS i).size ≤ 100
      rw [ByteArray.size_append]
      have : cpS.size = 8 := rfl
      omega
    unfold cpsF cpF
    refine Short.app (Short.app (Short.app ?_ ?_) ?_) (cpsF_short l (i + 1) (by omega))
    all_goals
      split
      · exact Short.one hs
      · exact Short.nil
theorem taxesF_short : ∀ (l : List Chg) (i : Nat), i + l.length ≤ 32 → Short (taxesF i l)
  | [], _, _ => Short.nil
  | c :: l, i, h => by
    simp only [List.length_cons] at h
    have hs : (atX i).size ≤ 100 := by
      have := dec_short (i := i) (by omega)
      unfold atX
      rw [ByteArray.size_append]
      have : (ByteArray.mk #[116, 97, 120, 101, 115, 46]).size = 6 := rfl
      omega
    unfold taxesF
    refine Short.app ?_ (taxesF_short l (i + 1) (by omega))
    split
    · exact Short.one hs
    · exact Short.nil
theorem chkF_short {n f tot iss : Int} {l a b c : ByteArray} {cs : List Cpn} {ts : List Chg} (hcs : cs.length ≤ 20) (hts : ts.length ≤ 20) : Short (chkF n l a b c cs f ts tot iss) := by
  unfold chkF
  refine (((((((Short.ifF ?_).app (Short.ifF ?_)).app (Short.ifF ?_)).app (Short.app ?_ (cpsF_short cs 0 (by omega)))).app ?_).app (taxesF_short ts 0 (by omega))).app (Short.ifF ?_)).app (Short.ifF ?_)
  any_goals exact Nat.le_of_ble_eq_true rfl
  · split
    · exact Short.one (Nat.le_of_ble_eq_true rfl)
    · exact Short.nil
  · split
    · exact Short.ifF (Nat.le_of_ble_eq_true rfl)
    · exact Short.one (Nat.le_of_ble_eq_true rfl)
theorem GV.ext {S T : List Ob} {d : D} {fs : List (Int × ByteArray)} (h : GV S d fs) (g : ExtS S T) : GV T d fs := by
  rcases h with ⟨h1, h2⟩ | ⟨k, h1, h2⟩
  · exact .inl ⟨h1, h2⟩
  · exact .inr ⟨k, h1, g k _ h2⟩
/-- Rows that are not violations stay where they are. -/
def KeepR (S T : List Ob) : Prop := ∀ (k sz : Nat) (es : List (List D)), sz ≠ 2 → S[k]? = some (.row sz es) → T[k]? = some (.row sz es)
theorem app_g {S : List Ob} {d : D} {fs : List (Int × ByteArray)} (h : GV S d fs) (hl : fs.length ≤ 1000) (e : Int) (s : ByteArray) :
    ∃ S', dAppend Tryd.prog S 47 47 d (.sl 2 [[.int .i64 e, .str s]] true) = some (.os S.length 0 (fs.length + 1) false, S') ∧ GV S' (.os S.length 0 (fs.length + 1) false) (fs ++ [(e, s)]) ∧ KeepR S S' ∧ (∀ k o, (∀ n, d = .os k 0 n false → False) → S[k]? = some o → S'[k]? = some o) := by
  obtain ⟨S', h1, h2, h3⟩ := app_fault h hl e s
  refine ⟨S', h1, app_ov h2, fun k sz es hz hs => h3 k _ (fun n e => ?_) hs, h3⟩
  subst e
  rcases h with ⟨g1, -⟩ | ⟨k', g1, g2⟩
  · cases g1
  · cases g1
    rw [hs] at g2
    injection g2 with g2
    injection g2 with g2 _
    exact hz g2
theorem dcm_all : (List.range 32).all (fun n => sameS (strOf (dcall E 902 63 [.int .i64 n] [])) (some (decS n))) = true := by kernel_rfl
theorem dcm_c {i : Nat} (hi : i < 32) (st : Bool) (S : List Ob) : callD E (dcall E 902) st S 63 [.int .i64 i] = some (.str (decS i), S) := by
  obtain ⟨s, h1, h2⟩ := sameS_spec (List.all_eq_true.1 dcm_all i (List.mem_range.2 hi))
  obtain ⟨T, e⟩ := strOf_spec h1
  rw [Option.some.inj h2]
  exact callD_pure rfl rfl e rfl
theorem dcr_all : (List.range 32).all (fun n => sameS (strOf (dcall E 902 71 [.int .i64 n] [])) (some (decS n))) = true := by kernel_rfl
theorem dcr_c {i : Nat} (hi : i < 32) (st : Bool) (S : List Ob) : callD E (dcall E 902) st S 71 [.int .i64 i] = some (.str (decS i), S) := by
  obtain ⟨s, h1, h2⟩ := sameS_spec (List.all_eq_true.1 dcr_all i (List.mem_range.2 hi))
  obtain ⟨T, e⟩ := strOf_spec h1
  rw [Option.some.inj h2]
  exact callD_pure rfl rfl e rfl

def TB (ts : List Tk2) (x : Bool) (db ds : D) (i : Nat) (a : List D) : Prop :=
  a.length = 109 ∧ a[0]? = some (.sl 10 (ts.map Tk2.enc) x) ∧ a[1]? = some db ∧ a[2]? = some ds ∧ a[20]? = some (.sl 10 (ts.map Tk2.enc) x) ∧ a[21]? = some (.int .i64 ts.length) ∧ a[22]? = some (.int .i64 i)
/-- What is said of a ticket. -/
def TkOk (t : Tk2) : Prop := t.cps.length ≤ 20 ∧ t.txs.length ≤ 20 ∧ t.a.size ≤ 200 ∧ t.b.size ≤ 200
theorem atT_size {i : Nat} (hi : i < 32) : (atT i).size ≤ 30 := by
  have := dec_short hi
  unfold atT
  rw [ByteArray.size_append]
  have : (ByteArray.mk #[116, 105, 99, 107, 101, 116, 115, 46]).size = 8 := rfl
  omega
theorem GV.lt {S : List Ob} {d : D} {fs : List (Int × ByteArray)} (h : GV S d fs) : ∀ k n, d = .os k 0 n false → k < S.length := by
  intro k n e
  subst e
  rcases h with ⟨h1, -⟩ | ⟨k', h1, h2⟩
  · cases h1
  · cases h1; exact (List.getElem?_eq_some_iff.1 h2).1
theorem Check_c {t : Tk2} (h : TkOk t) (S : List Ob) : ∃ d, callD E (dcall E 902) false S 64 [.agg (tkR t.n t.l t.a t.b t.c t.cs t.f t.tx t.tot t.iss)] = some (d, S) ∧ ((d = .nils ∧ chT t = []) ∨ ∃ x, d = .sl 2 ((chT t).map encF) x) := by
  obtain ⟨d, V, hV, hg, -, -⟩ := Check_d (n := t.n) (l := t.l) (pa := t.a) (b := t.b) (c := t.c) (f := t.f) (tot := t.tot) (iss := t.iss) (S := []) h.1 h.2.1 h.2.2.1 h.2.2.2 t.hc t.hx
  have hpu : pureL [D.agg (tkR t.n t.l t.a t.b t.c t.cs t.f t.tx t.tot t.iss)] = true := by
    have e1 : t.cs.pure = true := by
      rcases t.hc with ⟨e1, -⟩ | ⟨x, e1⟩ <;> rw [e1]
      · rfl
      · simpa [D.pure] using cpn_pure t.cps
    have e2 : t.tx.pure = true := by
      rcases t.hx with ⟨e1, -⟩ | ⟨x, e1⟩ <;> rw [e1]
      · rfl
      · simpa [D.pure] using chg_pure t.txs
    simp [tkR, pureL_cons, pureL_nil, D.pure, e1, e2]
  rcases hg with ⟨rfl, e⟩ | ⟨k, rfl, hk⟩
  · exact ⟨_, callD_pure rfl hpu hV rfl, .inl ⟨rfl, e⟩⟩
  · have := freeze_os (n := 38) (x := false) hk (encF_pure _)
    rw [List.length_map] at this
    exact ⟨_, callD_pure rfl hpu hV this, .inr ⟨_, rfl⟩⟩
theorem ixS_c {n F : Nat} {ys : List D} {p : Stt → Bool} {l : List Stt} {d : D} {S : List Ob} (hl : l.length ≤ n) (hz : l.length ≤ 100000) (hd : (d = .nils ∧ l = []) ∨ ∃ x, d = .sl 4 (l.map Stt.enc) x) (hy : pureL ys = false)
    (hF : ∀ T, ExtS S T → ∀ q, ∃ U, callD E (dcall E (n + 1)) false T F (.agg (Stt.enc q) :: ys) = some (.bool (p q), U) ∧ ExtS T U) :
    ∃ T, callD E (dcall E (n + 2)) false S 69 [d, .func F [] ys] = some (.int .i64 (fdx p 0 l), T) ∧ ExtS S T := by
  have hp : ∀ e : D, pureL [e, .func F [] ys] = false := fun e => by simp [pureL, D.pure, hy]
  obtain ⟨_, U, hU, rfl, hx⟩ := ixS_d hl hz hd hF
  exact ⟨U, (callD_own rfl (hp d)).trans hU, hx⟩
set_option maxHeartbeats 8000000 in
set_option maxRecDepth 100000 in
theorem Tickets_d {ts : List Tk2} {x : Bool} {bs : List Bk} {sts : List Stt} {db ds : D} {S : List Ob} (hl : ts.length ≤ 10) (hlb : bs.length ≤ 10) (hls : sts.length ≤ 60) (hok : ∀ t ∈ ts, TkOk t)
    (hdb : (db = .nils ∧ bs = []) ∨ ∃ x, db = .sl 6 (bs.map Bk.enc) x) (hds : (ds = .nils ∧ sts = []) ∨ ∃ x, ds = .sl 4 (sts.map Stt.enc) x) :
    WO (dcall E 903 21 [.sl 10 (ts.map Tk2.enc) x, db, ds] S) fun d T => GV T d (tksF bs sts ts 0 ts) := by
  refine wo_dcall Tryd.func21 rfl (by decide) rfl 109 rfl (fun a hal ha => ?_)
  have h0 : a[0]? = some (.sl 10 (ts.map Tk2.enc) x) := ha 0 (by simp)
  have h1 : a[1]? = some db := ha 1 (by simp)
  have h2 : a[2]? = some ds := ha 2 (by simp)
  clear ha
  have hm : ¬ (1024 : Int) < ts.length := by omega
  have ht : (ts.map Tk2.enc).take ts.length = ts.map Tk2.enc := by rw [← List.length_map (f := Tk2.enc), List.take_length]
  simp (maxSteps := 1000000) (disch := omega) only [push_cast, ↓wc_seq, ↓wc_block, ↓wc_scope, ↓wc_condL, ↓wc_region, ↓wr_cons, ↓wr_consgL, ↓wr_nil, ↓wo_pickL, ↓wo_callf, ↓wc_exit, ↓wc_ret, ↓wc_skip, ↓wc_wl, wo_some, wo_none, wo_ite, opQ_eq, seqQ_normal, seqQ_exit, seqQ_ret, blockQ_normal, blockQ_exit, blockQ_ret, iterQ_normal, iterQ_exit, iterQ_ret, retQ_normal, retQ_ret, retQ_exit, pickC_true, pickC_false, pickO_true, pickO_false, gstep_tt, gstep_ff, gstep_tf, gstep_ft, gstep_skip, int_bne, int_beq, decide_not, Nat.reduceAdd, Nat.reduceMul, Nat.reduceSub, Nat.reducePow, Nat.reduceLT, Nat.reduceLeDiff, Nat.reduceEqDiff, Int.reduceToNat, Int.reduceAdd, Int.reduceSub, Int.reduceNeg, Int.reduceMul, Int.reduceLT, Int.reduceLE, Int.reduceEq, le_max, ↓wo_build, ↓wo_buildSlice, evParts, ↓reduceIte, planIds, hasExt, cntFs, idxFs, clnFs, ovlFs, List.contains_cons, List.contains_nil, List.any_cons, List.any_nil, Nat.reduceBEq, setC, List.length_set, decide_eq_true_eq, decide_eq_false_iff_not, true_implies, false_implies, forall_const, reduceCtorEq, eq_self, Int.natCast_nonneg, Int.toNat_natCast, Int.ofNat_lt, D.int.injEq, Option.some.injEq, Nat.zero_add, Nat.add_zero, bne_iff_ne, bne_eq_false_iff_eq, beq_iff_eq, beq_eq_false_iff_ne, gt_iff_lt, ne_eq, not_true_eq_false, not_false_eq_true, planIds, hasExt, cntFs, idxFs, clnFs, ovlFs, List.contains_cons, List.contains_nil, List.any_cons, List.any_nil, Nat.reduceBEq, Nat.reduceMul, Nat.reduceAdd, ↓reduceIte, hal, h0, h1, h2, hm, ht, List.length_map, Nat.le_refl, Nat.zero_le, Nat.sub_zero]
  refine wl_loop (fun i a T => TB ts x db ds i a ∧ ∃ d fs, a[7]? = some d ∧ GV T d fs ∧ tksF bs sts ts 0 ts = fs ++ tksF bs sts ts i (ts.drop i) ∧ fs.length ≤ 96 * i) ts.length ?_ (by omega) ?_
  · simp (maxSteps := 1000000) (disch := omega) only [push_cast, ↓wc_seq, ↓wc_block, ↓wc_scope, ↓wc_condL, ↓wc_region, ↓wr_cons, ↓wr_consgL, ↓wr_nil, ↓wo_pickL, ↓wo_callf, ↓wc_exit, ↓wc_ret, ↓wc_skip, ↓wc_wl, wo_some, wo_none, wo_ite, opQ_eq, seqQ_normal, seqQ_exit, seqQ_ret, blockQ_normal, blockQ_exit, blockQ_ret, iterQ_normal, iterQ_exit, iterQ_ret, retQ_normal, retQ_ret, retQ_exit, pickC_true, pickC_false, pickO_true, pickO_false, gstep_tt, gstep_ff, gstep_tf, gstep_ft, gstep_skip, int_bne, int_beq, decide_not, Nat.reduceAdd, Nat.reduceMul, Nat.reduceSub, Nat.reducePow, Nat.reduceLT, Nat.reduceLeDiff, Nat.reduceEqDiff, Int.reduceToNat, Int.reduceAdd, Int.reduceSub, Int.reduceNeg, Int.reduceMul, Int.reduceLT, Int.reduceLE, Int.reduceEq, le_max, ↓wo_build, ↓wo_buildSlice, evParts, ↓reduceIte, planIds, hasExt, cntFs, idxFs, clnFs, ovlFs, List.contains_cons, List.contains_nil, List.any_cons, List.any_nil, Nat.reduceBEq, setC, List.length_set, decide_eq_true_eq, decide_eq_false_iff_not, true_implies, false_implies, forall_const, reduceCtorEq, eq_self, Int.natCast_nonneg, Int.toNat_natCast, Int.ofNat_lt, D.int.injEq, Option.some.injEq, Nat.zero_add, Nat.add_zero, bne_iff_ne, bne_eq_false_iff_eq, beq_iff_eq, beq_eq_false_iff_ne, gt_iff_lt, ne_eq, not_true_eq_false, not_false_eq_true, planIds, hasExt, cntFs, idxFs, clnFs, ovlFs, List.contains_cons, List.contains_nil, List.any_cons, List.any_nil, Nat.reduceBEq, Nat.reduceMul, Nat.reduceAdd, ↓reduceIte, TB, hal, h0, h1, h2, List.length_map, Int.natCast_zero]
    exact ⟨_, _, rfl, .inl ⟨rfl, rfl⟩, rfl, by simp⟩
  clear hal h0 h1 h2 a
  rintro i a T hi ⟨⟨hal, h0, h1, h2, h20, h21, h22⟩, d, fs, h7, hg, hv, hfl⟩
  rcases Nat.lt_or_eq_of_le hi with hlt | rfl
  case inr =>
    rw [List.drop_length, tksF, List.append_nil] at hv
    simp (maxSteps := 1000000) (disch := omega) only [push_cast, ↓wc_seq, ↓wc_block, ↓wc_scope, ↓wc_condL, ↓wc_region, ↓wr_cons, ↓wr_consgL, ↓wr_nil, ↓wo_pickL, ↓wo_callf, ↓wc_exit, ↓wc_ret, ↓wc_skip, ↓wc_wl, wo_some, wo_none, wo_ite, opQ_eq, seqQ_normal, seqQ_exit, seqQ_ret, blockQ_normal, blockQ_exit, blockQ_ret, iterQ_normal, iterQ_exit, iterQ_ret, retQ_normal, retQ_ret, retQ_exit, pickC_true, pickC_false, pickO_true, pickO_false, gstep_tt, gstep_ff, gstep_tf, gstep_ft, gstep_skip, int_bne, int_beq, decide_not, Nat.reduceAdd, Nat.reduceMul, Nat.reduceSub, Nat.reducePow, Nat.reduceLT, Nat.reduceLeDiff, Nat.reduceEqDiff, Int.reduceToNat, Int.reduceAdd, Int.reduceSub, Int.reduceNeg, Int.reduceMul, Int.reduceLT, Int.reduceLE, Int.reduceEq, le_max, ↓wo_build, ↓wo_buildSlice, evParts, ↓reduceIte, planIds, hasExt, cntFs, idxFs, clnFs, ovlFs, List.contains_cons, List.contains_nil, List.any_cons, List.any_nil, Nat.reduceBEq, setC, List.length_set, decide_eq_true_eq, decide_eq_false_iff_not, true_implies, false_implies, forall_const, reduceCtorEq, eq_self, Int.natCast_nonneg, Int.toNat_natCast, Int.ofNat_lt, D.int.injEq, Option.some.injEq, Nat.zero_add, Nat.add_zero, bne_iff_ne, bne_eq_false_iff_eq, beq_iff_eq, beq_eq_false_iff_ne, gt_iff_lt, ne_eq, not_true_eq_false, not_false_eq_true, planIds, hasExt, cntFs, idxFs, clnFs, ovlFs, List.contains_cons, List.contains_nil, List.any_cons, List.any_nil, Nat.reduceBEq, Nat.reduceMul, Nat.reduceAdd, ↓reduceIte, hal, h0, h1, h2, h7, h20, h21, h22, Nat.lt_irrefl, Tryd.f21]
    rw [hv]; exact hg
  obtain ⟨t, hti⟩ : ∃ t, ts[i]? = some t := ⟨ts[i], by simp [hlt]⟩
  rw [drop_at hti, tksF] at hv
  have htok := hok t (List.mem_of_getElem? hti)
  have hi32 : i < 32 := by omega
  -- the head of the loop
  refine wc_scut (fun a T' => TB ts x db ds i a ∧ a[7]? = some d ∧ a[23]? = some (.bool true) ∧ T' = T) ?_ ?_
  · simp (maxSteps := 1000000) (disch := omega) only [push_cast, ↓wc_seq, ↓wc_block, ↓wc_scope, ↓wc_condL, ↓wc_region, ↓wr_cons, ↓wr_consgL, ↓wr_nil, ↓wo_pickL, ↓wo_callf, ↓wc_exit, ↓wc_ret, ↓wc_skip, ↓wc_wl, wo_some, wo_none, wo_ite, opQ_eq, seqQ_normal, seqQ_exit, seqQ_ret, blockQ_normal, blockQ_exit, blockQ_ret, iterQ_normal, iterQ_exit, iterQ_ret, retQ_normal, retQ_ret, retQ_exit, pickC_true, pickC_false, pickO_true, pickO_false, gstep_tt, gstep_ff, gstep_tf, gstep_ft, gstep_skip, int_bne, int_beq, decide_not, Nat.reduceAdd, Nat.reduceMul, Nat.reduceSub, Nat.reducePow, Nat.reduceLT, Nat.reduceLeDiff, Nat.reduceEqDiff, Int.reduceToNat, Int.reduceAdd, Int.reduceSub, Int.reduceNeg, Int.reduceMul, Int.reduceLT, Int.reduceLE, Int.reduceEq, le_max, ↓wo_build, ↓wo_buildSlice, evParts, ↓reduceIte, planIds, hasExt, cntFs, idxFs, clnFs, ovlFs, List.contains_cons, List.contains_nil, List.any_cons, List.any_nil, Nat.reduceBEq, setC, List.length_set, decide_eq_true_eq, decide_eq_false_iff_not, true_implies, false_implies, forall_const, reduceCtorEq, eq_self, Int.natCast_nonneg, Int.toNat_natCast, Int.ofNat_lt, D.int.injEq, Option.some.injEq, Nat.zero_add, Nat.add_zero, bne_iff_ne, bne_eq_false_iff_eq, beq_iff_eq, beq_eq_false_iff_ne, gt_iff_lt, ne_eq, not_true_eq_false, not_false_eq_true, planIds, hasExt, cntFs, idxFs, clnFs, ovlFs, List.contains_cons, List.contains_nil, List.any_cons, List.any_nil, Nat.reduceBEq, Nat.reduceMul, Nat.reduceAdd, ↓reduceIte, TB, hal, h0, h1, h2, h7, h20, h21, h22, hlt]
  clear hal h0 h1 h2 h7 h20 h21 h22 a
  rintro a T' ⟨⟨hal, h0, h1, h2, h20, h21, h22⟩, h7, h23, rfl⟩
  refine wc_scut (fun a T'' => TB ts x db ds i a ∧ a[7]? = some d ∧ T'' = T') ?_ ?_
  · simp (maxSteps := 1000000) (disch := omega) only [push_cast, ↓wc_seq, ↓wc_block, ↓wc_scope, ↓wc_condL, ↓wc_region, ↓wr_cons, ↓wr_consgL, ↓wr_nil, ↓wo_pickL, ↓wo_callf, ↓wc_exit, ↓wc_ret, ↓wc_skip, ↓wc_wl, wo_some, wo_none, wo_ite, opQ_eq, seqQ_normal, seqQ_exit, seqQ_ret, blockQ_normal, blockQ_exit, blockQ_ret, iterQ_normal, iterQ_exit, iterQ_ret, retQ_normal, retQ_ret, retQ_exit, pickC_true, pickC_false, pickO_true, pickO_false, gstep_tt, gstep_ff, gstep_tf, gstep_ft, gstep_skip, int_bne, int_beq, decide_not, Nat.reduceAdd, Nat.reduceMul, Nat.reduceSub, Nat.reducePow, Nat.reduceLT, Nat.reduceLeDiff, Nat.reduceEqDiff, Int.reduceToNat, Int.reduceAdd, Int.reduceSub, Int.reduceNeg, Int.reduceMul, Int.reduceLT, Int.reduceLE, Int.reduceEq, le_max, ↓wo_build, ↓wo_buildSlice, evParts, ↓reduceIte, planIds, hasExt, cntFs, idxFs, clnFs, ovlFs, List.contains_cons, List.contains_nil, List.any_cons, List.any_nil, Nat.reduceBEq, setC, List.length_set, decide_eq_true_eq, decide_eq_false_iff_not, true_implies, false_implies, forall_const, reduceCtorEq, eq_self, Int.natCast_nonneg, Int.toNat_natCast, Int.ofNat_lt, D.int.injEq, Option.some.injEq, Nat.zero_add, Nat.add_zero, bne_iff_ne, bne_eq_false_iff_eq, beq_iff_eq, beq_eq_false_iff_ne, gt_iff_lt, ne_eq, not_true_eq_false, not_false_eq_true, planIds, hasExt, cntFs, idxFs, clnFs, ovlFs, List.contains_cons, List.contains_nil, List.any_cons, List.any_nil, Nat.reduceBEq, Nat.reduceMul, Nat.reduceAdd, ↓reduceIte, TB, hal, h0, h1, h2, h7, h20, h21, h22, h23]
  clear hal h0 h1 h2 h7 h20 h21 h22 h23 a
  rintro a T ⟨⟨hal, h0, h1, h2, h20, h21, h22⟩, h7, rfl⟩
  refine wc_scut (fun a T => TB ts x db ds i a ∧ ∃ d' fs', a[7]? = some d' ∧ GV T d' fs' ∧ fs' = fs ++ preF (atT i) (chT t) ++ ifF (!bs.any fun b => b.loc.toList == t.l.toList) 7 (atT i ++ ByteArray.mk #[46, 98, 111, 111, 107, 105, 110, 103]) ++ ifF ((ts.take i).any fun p => decide (p.n = t.n)) 6 (atT i) ++ stF (atT i) sts t.n 0 t.six ∧ fs'.length ≤ 96 * (i + 1)) ?_ ?_
  case refine_2 =>
    clear hal h0 h1 h2 h7 h20 h21 h22 a hg
    rintro a T ⟨⟨hal, h0, h1, h2, h20, h21, h22⟩, d', fs', h7, hg, rfl, hfl'⟩
    simp (maxSteps := 1000000) (disch := omega) only [push_cast, ↓wc_seq, ↓wc_block, ↓wc_scope, ↓wc_condL, ↓wc_region, ↓wr_cons, ↓wr_consgL, ↓wr_nil, ↓wo_pickL, ↓wo_callf, ↓wc_exit, ↓wc_ret, ↓wc_skip, ↓wc_wl, wo_some, wo_none, wo_ite, opQ_eq, seqQ_normal, seqQ_exit, seqQ_ret, blockQ_normal, blockQ_exit, blockQ_ret, iterQ_normal, iterQ_exit, iterQ_ret, retQ_normal, retQ_ret, retQ_exit, pickC_true, pickC_false, pickO_true, pickO_false, gstep_tt, gstep_ff, gstep_tf, gstep_ft, gstep_skip, int_bne, int_beq, decide_not, Nat.reduceAdd, Nat.reduceMul, Nat.reduceSub, Nat.reducePow, Nat.reduceLT, Nat.reduceLeDiff, Nat.reduceEqDiff, Int.reduceToNat, Int.reduceAdd, Int.reduceSub, Int.reduceNeg, Int.reduceMul, Int.reduceLT, Int.reduceLE, Int.reduceEq, le_max, ↓wo_build, ↓wo_buildSlice, evParts, ↓reduceIte, planIds, hasExt, cntFs, idxFs, clnFs, ovlFs, List.contains_cons, List.contains_nil, List.any_cons, List.any_nil, Nat.reduceBEq, setC, List.length_set, decide_eq_true_eq, decide_eq_false_iff_not, true_implies, false_implies, forall_const, reduceCtorEq, eq_self, Int.natCast_nonneg, Int.toNat_natCast, Int.ofNat_lt, D.int.injEq, Option.some.injEq, Nat.zero_add, Nat.add_zero, bne_iff_ne, bne_eq_false_iff_eq, beq_iff_eq, beq_eq_false_iff_ne, gt_iff_lt, ne_eq, not_true_eq_false, not_false_eq_true, planIds, hasExt, cntFs, idxFs, clnFs, ovlFs, List.contains_cons, List.contains_nil, List.any_cons, List.any_nil, Nat.reduceBEq, Nat.reduceMul, Nat.reduceAdd, ↓reduceIte, TB, hal, h0, h1, h2, h7, h20, h21, h22, wrap_ok, Int.natCast_add, Int.natCast_one]
    exact ⟨hlt, _, _, rfl, hg, by rw [hv]; unfold tkF; simp only [List.append_assoc], hfl'⟩
  rw [wc_block]
  generalize hq : atT i = q
  have hqs : q.size ≤ 30 := hq ▸ atT_size hi32
  -- the ticket, its name
  refine wc_scut (fun a T' => TB ts x db ds i a ∧ a[7]? = some d ∧ a[8]? = some (.int .i64 i) ∧ a[9]? = some (.loc T.length 0 0) ∧ T' = T ++ [.row 10 [t.enc]]) ?_ ?_
  · rcases t.hc with ⟨e1, -⟩ | ⟨_, e1⟩ <;> rcases t.hx with ⟨e2, -⟩ | ⟨_, e2⟩ <;>
      simp (maxSteps := 1000000) (disch := omega) only [push_cast, ↓wc_seq, ↓wc_block, ↓wc_scope, ↓wc_condL, ↓wc_region, ↓wr_cons, ↓wr_consgL, ↓wr_nil, ↓wo_pickL, ↓wo_callf, ↓wc_exit, ↓wc_ret, ↓wc_skip, ↓wc_wl, wo_some, wo_none, wo_ite, opQ_eq, seqQ_normal, seqQ_exit, seqQ_ret, blockQ_normal, blockQ_exit, blockQ_ret, iterQ_normal, iterQ_exit, iterQ_ret, retQ_normal, retQ_ret, retQ_exit, pickC_true, pickC_false, pickO_true, pickO_false, gstep_tt, gstep_ff, gstep_tf, gstep_ft, gstep_skip, int_bne, int_beq, decide_not, Nat.reduceAdd, Nat.reduceMul, Nat.reduceSub, Nat.reducePow, Nat.reduceLT, Nat.reduceLeDiff, Nat.reduceEqDiff, Int.reduceToNat, Int.reduceAdd, Int.reduceSub, Int.reduceNeg, Int.reduceMul, Int.reduceLT, Int.reduceLE, Int.reduceEq, le_max, ↓wo_build, ↓wo_buildSlice, evParts, ↓reduceIte, planIds, hasExt, cntFs, idxFs, clnFs, ovlFs, List.contains_cons, List.contains_nil, List.any_cons, List.any_nil, Nat.reduceBEq, setC, List.length_set, decide_eq_true_eq, decide_eq_false_iff_not, true_implies, false_implies, forall_const, reduceCtorEq, eq_self, Int.natCast_nonneg, Int.toNat_natCast, Int.ofNat_lt, D.int.injEq, Option.some.injEq, Nat.zero_add, Nat.add_zero, bne_iff_ne, bne_eq_false_iff_eq, beq_iff_eq, beq_eq_false_iff_ne, gt_iff_lt, ne_eq, not_true_eq_false, not_false_eq_true, planIds, hasExt, cntFs, idxFs, clnFs, ovlFs, List.contains_cons, List.contains_nil, List.any_cons, List.any_nil, Nat.reduceBEq, Nat.reduceMul, Nat.reduceAdd, ↓reduceIte, TB, hal, h0, h1, h2, h7, h20, h21, h22, hti, List.getElem?_map, set_last, get_last, Tk2.enc, tkR, e1, e2, Bool.and_true]
  generalize hp : T.length = p
  clear hal h0 h1 h2 h7 h20 h21 h22 a
  rintro a U ⟨⟨hal, h0, h1, h2, h20, h21, h22⟩, h7, h8, h9, rfl⟩
  have hr : (T ++ [Ob.row 10 [t.enc]])[p]? = some (.row 10 [t.enc]) := hp ▸ get_end
  have hg := hg.push (.row 10 [t.enc])
  clear hp
  generalize T ++ [Ob.row 10 [t.enc]] = T at *
  refine wc_scut (fun a T' => TB ts x db ds i a ∧ a[7]? = some d ∧ a[8]? = some (.int .i64 i) ∧ a[9]? = some (.loc p 0 0) ∧ a[10]? = some (.str q) ∧ T' = T) ?_ ?_
  · have hmx : ¬ IntKind.i64.max < ((ByteArray.mk #[116, 105, 99, 107, 101, 116, 115, 46]).size : Int) + ((decS i).size : Int) := by
      have := dec_short hi32
      show ¬ (9223372036854775807 : Int) < ((8 : Nat) : Int) + ((decS i).size : Int)
      omega
    simp (maxSteps := 1000000) (disch := omega) only [push_cast, ↓wc_seq, ↓wc_block, ↓wc_scope, ↓wc_condL, ↓wc_region, ↓wr_cons, ↓wr_consgL, ↓wr_nil, ↓wo_pickL, ↓wo_callf, ↓wc_exit, ↓wc_ret, ↓wc_skip, ↓wc_wl, wo_some, wo_none, wo_ite, opQ_eq, seqQ_normal, seqQ_exit, seqQ_ret, blockQ_normal, blockQ_exit, blockQ_ret, iterQ_normal, iterQ_exit, iterQ_ret, retQ_normal, retQ_ret, retQ_exit, pickC_true, pickC_false, pickO_true, pickO_false, gstep_tt, gstep_ff, gstep_tf, gstep_ft, gstep_skip, int_bne, int_beq, decide_not, Nat.reduceAdd, Nat.reduceMul, Nat.reduceSub, Nat.reducePow, Nat.reduceLT, Nat.reduceLeDiff, Nat.reduceEqDiff, Int.reduceToNat, Int.reduceAdd, Int.reduceSub, Int.reduceNeg, Int.reduceMul, Int.reduceLT, Int.reduceLE, Int.reduceEq, le_max, ↓wo_build, ↓wo_buildSlice, evParts, ↓reduceIte, planIds, hasExt, cntFs, idxFs, clnFs, ovlFs, List.contains_cons, List.contains_nil, List.any_cons, List.any_nil, Nat.reduceBEq, setC, List.length_set, decide_eq_true_eq, decide_eq_false_iff_not, true_implies, false_implies, forall_const, reduceCtorEq, eq_self, Int.natCast_nonneg, Int.toNat_natCast, Int.ofNat_lt, D.int.injEq, Option.some.injEq, Nat.zero_add, Nat.add_zero, bne_iff_ne, bne_eq_false_iff_eq, beq_iff_eq, beq_eq_false_iff_ne, gt_iff_lt, ne_eq, not_true_eq_false, not_false_eq_true, planIds, hasExt, cntFs, idxFs, clnFs, ovlFs, List.contains_cons, List.contains_nil, List.any_cons, List.any_nil, Nat.reduceBEq, Nat.reduceMul, Nat.reduceAdd, ↓reduceIte, TB, hal, h0, h1, h2, h7, h8, h9, h20, h21, h22, dcm_c hi32, hmx]
    rw [← hq]; rfl
  clear hal h0 h1 h2 h7 h8 h9 h20 h21 h22 a
  rintro a U ⟨⟨hal, h0, h1, h2, h20, h21, h22⟩, h7, h8, h9, h10, rfl⟩
  -- the check
  have hcl : (chT t).length ≤ 88 := chkF_len htok.1 htok.2.1
  refine wc_scut (fun a T => TB ts x db ds i a ∧ a[8]? = some (.int .i64 i) ∧ a[9]? = some (.loc p 0 0) ∧ a[10]? = some (.str q) ∧ T[p]? = some (.row 10 [t.enc]) ∧ ∃ d' fs', a[7]? = some d' ∧ GV T d' fs' ∧ fs' = fs ++ preF q (chT t)) ?_ ?_
  · have hsh : Short (chT t) := chkF_short htok.1 htok.2.1
    obtain ⟨d31, hck, h31⟩ := Check_c htok U
    have hr' := hr
    rw [Tk2.enc_eq] at hr'
    unfold tkR at hck
    refine wc_scut (fun a T' => TB ts x db ds i a ∧ a[7]? = some d ∧ a[8]? = some (.int .i64 i) ∧ a[9]? = some (.loc p 0 0) ∧ a[10]? = some (.str q) ∧ a[31]? = some d31 ∧ a[32]? = some (.int .i64 (chT t).length) ∧ a[33]? = some (.int .i64 0) ∧ T' = U) ?_ ?_
    · rcases h31 with ⟨rfl, e31⟩ | ⟨y, rfl⟩
      · simp (maxSteps := 1000000) (disch := omega) only [push_cast, ↓wc_seq, ↓wc_block, ↓wc_scope, ↓wc_condL, ↓wc_region, ↓wr_cons, ↓wr_consgL, ↓wr_nil, ↓wo_pickL, ↓wo_callf, ↓wc_exit, ↓wc_ret, ↓wc_skip, ↓wc_wl, wo_some, wo_none, wo_ite, opQ_eq, seqQ_normal, seqQ_exit, seqQ_ret, blockQ_normal, blockQ_exit, blockQ_ret, iterQ_normal, iterQ_exit, iterQ_ret, retQ_normal, retQ_ret, retQ_exit, pickC_true, pickC_false, pickO_true, pickO_false, gstep_tt, gstep_ff, gstep_tf, gstep_ft, gstep_skip, int_bne, int_beq, decide_not, Nat.reduceAdd, Nat.reduceMul, Nat.reduceSub, Nat.reducePow, Nat.reduceLT, Nat.reduceLeDiff, Nat.reduceEqDiff, Int.reduceToNat, Int.reduceAdd, Int.reduceSub, Int.reduceNeg, Int.reduceMul, Int.reduceLT, Int.reduceLE, Int.reduceEq, le_max, ↓wo_build, ↓wo_buildSlice, evParts, ↓reduceIte, planIds, hasExt, cntFs, idxFs, clnFs, ovlFs, List.contains_cons, List.contains_nil, List.any_cons, List.any_nil, Nat.reduceBEq, setC, List.length_set, decide_eq_true_eq, decide_eq_false_iff_not, true_implies, false_implies, forall_const, reduceCtorEq, eq_self, Int.natCast_nonneg, Int.toNat_natCast, Int.ofNat_lt, D.int.injEq, Option.some.injEq, Nat.zero_add, Nat.add_zero, bne_iff_ne, bne_eq_false_iff_eq, beq_iff_eq, beq_eq_false_iff_ne, gt_iff_lt, ne_eq, not_true_eq_false, not_false_eq_true, planIds, hasExt, cntFs, idxFs, clnFs, ovlFs, List.contains_cons, List.contains_nil, List.any_cons, List.any_nil, Nat.reduceBEq, Nat.reduceMul, Nat.reduceAdd, ↓reduceIte, TB, hal, h0, h1, h2, h7, h8, h9, h10, h20, h21, h22, hr', hck, e31, Int.natCast_zero]
      · simp (maxSteps := 1000000) (disch := omega) only [push_cast, ↓wc_seq, ↓wc_block, ↓wc_scope, ↓wc_condL, ↓wc_region, ↓wr_cons, ↓wr_consgL, ↓wr_nil, ↓wo_pickL, ↓wo_callf, ↓wc_exit, ↓wc_ret, ↓wc_skip, ↓wc_wl, wo_some, wo_none, wo_ite, opQ_eq, seqQ_normal, seqQ_exit, seqQ_ret, blockQ_normal, blockQ_exit, blockQ_ret, iterQ_normal, iterQ_exit, iterQ_ret, retQ_normal, retQ_ret, retQ_exit, pickC_true, pickC_false, pickO_true, pickO_false, gstep_tt, gstep_ff, gstep_tf, gstep_ft, gstep_skip, int_bne, int_beq, decide_not, Nat.reduceAdd, Nat.reduceMul, Nat.reduceSub, Nat.reducePow, Nat.reduceLT, Nat.reduceLeDiff, Nat.reduceEqDiff, Int.reduceToNat, Int.reduceAdd, Int.reduceSub, Int.reduceNeg, Int.reduceMul, Int.reduceLT, Int.reduceLE, Int.reduceEq, le_max, ↓wo_build, ↓wo_buildSlice, evParts, ↓reduceIte, planIds, hasExt, cntFs, idxFs, clnFs, ovlFs, List.contains_cons, List.contains_nil, List.any_cons, List.any_nil, Nat.reduceBEq, setC, List.length_set, decide_eq_true_eq, decide_eq_false_iff_not, true_implies, false_implies, forall_const, reduceCtorEq, eq_self, Int.natCast_nonneg, Int.toNat_natCast, Int.ofNat_lt, D.int.injEq, Option.some.injEq, Nat.zero_add, Nat.add_zero, bne_iff_ne, bne_eq_false_iff_eq, beq_iff_eq, beq_eq_false_iff_ne, gt_iff_lt, ne_eq, not_true_eq_false, not_false_eq_true, planIds, hasExt, cntFs, idxFs, clnFs, ovlFs, List.contains_cons, List.contains_nil, List.any_cons, List.any_nil, Nat.reduceBEq, Nat.reduceMul, Nat.reduceAdd, ↓reduceIte, TB, hal, h0, h1, h2, h7, h8, h9, h10, h20, h21, h22, hr', hck, List.length_map]
    clear hal h0 h1 h2 h7 h8 h9 h10 h20 h21 h22 a hr'
    rintro a U' ⟨⟨hal, h0, h1, h2, h20, h21, h22⟩, h7, h8, h9, h10, h31', h32, h33, rfl⟩
    generalize hcs : chT t = cs at *
    rw [wc_block, wc_wl]
    refine wl_loop (fun j a T => TB ts x db ds i a ∧ a[8]? = some (.int .i64 i) ∧ a[9]? = some (.loc p 0 0) ∧ a[10]? = some (.str q) ∧ a[31]? = some d31 ∧ a[32]? = some (.int .i64 cs.length) ∧ a[33]? = some (.int .i64 j) ∧ T[p]? = some (.row 10 [t.enc]) ∧ ∃ d' fs', a[7]? = some d' ∧ GV T d' fs' ∧ fs' = fs ++ preF q (cs.take j)) cs.length ?_ (by omega) ?_
    · exact ⟨⟨hal, h0, h1, h2, h20, h21, h22⟩, h8, h9, h10, h31', h32, h33, hr, _, _, h7, hg, by simp [preF]⟩
    clear hal h0 h1 h2 h7 h8 h9 h10 h20 h21 h22 a hr hg h31' h32 h33
    rintro j a T hj ⟨⟨hal, h0, h1, h2, h20, h21, h22⟩, h8, h9, h10, h31', h32, h33, hr, d', fs', h7, hg, rfl⟩
    rcases Nat.lt_or_eq_of_le hj with hlt' | rfl
    · rcases h31 with ⟨-, e31⟩ | ⟨y, rfl⟩
      · rw [e31] at hlt'; simp at hlt'
      obtain ⟨⟨e, s⟩, hq'⟩ : ∃ q, cs[j]? = some q := ⟨cs[j], by simp [hlt']⟩
      have hs100 : s.size ≤ 100 := hsh (e, s) (List.mem_of_getElem? hq')
      have hpl : (fs ++ preF q (cs.take j)).length ≤ 1000 := by
        rw [List.length_append, preF_len, List.length_take]; omega
      obtain ⟨W, hW, hgW, hkW, -⟩ := app_g (hg.push (.row 2 [[.int .i64 e, .str s]])) hpl e (q ++ ByteArray.mk #[46] ++ s)
      have hrW := hkW p 10 _ (by decide) (get_old hr)
      have hmx1 : ¬ IntKind.i64.max < (q.size : Int) + ((ByteArray.mk #[46]).size : Int) := by
        show ¬ (9223372036854775807 : Int) < (q.size : Int) + ((1 : Nat) : Int)
        omega
      have hmx2 : ¬ IntKind.i64.max < ((q ++ ByteArray.mk #[46]).size : Int) + (s.size : Int) := by
        rw [ByteArray.size_append]
        show ¬ (9223372036854775807 : Int) < ((q.size + 1 : Nat) : Int) + (s.size : Int)
        omega
      have htk : fs ++ preF q (cs.take (j + 1)) = fs ++ preF q (cs.take j) ++ [(e, q ++ ByteArray.mk #[46] ++ s)] := by
        rw [List.take_add_one, hq', preF, preF, List.map_append, List.append_assoc]; rfl
      simp (maxSteps := 1000000) (disch := omega) only [push_cast, ↓wc_seq, ↓wc_block, ↓wc_scope, ↓wc_condL, ↓wc_region, ↓wr_cons, ↓wr_consgL, ↓wr_nil, ↓wo_pickL, ↓wo_callf, ↓wc_exit, ↓wc_ret, ↓wc_skip, ↓wc_wl, wo_some, wo_none, wo_ite, opQ_eq, seqQ_normal, seqQ_exit, seqQ_ret, blockQ_normal, blockQ_exit, blockQ_ret, iterQ_normal, iterQ_exit, iterQ_ret, retQ_normal, retQ_ret, retQ_exit, pickC_true, pickC_false, pickO_true, pickO_false, gstep_tt, gstep_ff, gstep_tf, gstep_ft, gstep_skip, int_bne, int_beq, decide_not, Nat.reduceAdd, Nat.reduceMul, Nat.reduceSub, Nat.reducePow, Nat.reduceLT, Nat.reduceLeDiff, Nat.reduceEqDiff, Int.reduceToNat, Int.reduceAdd, Int.reduceSub, Int.reduceNeg, Int.reduceMul, Int.reduceLT, Int.reduceLE, Int.reduceEq, le_max, ↓wo_build, ↓wo_buildSlice, evParts, ↓reduceIte, planIds, hasExt, cntFs, idxFs, clnFs, ovlFs, List.contains_cons, List.contains_nil, List.any_cons, List.any_nil, Nat.reduceBEq, setC, List.length_set, decide_eq_true_eq, decide_eq_false_iff_not, true_implies, false_implies, forall_const, reduceCtorEq, eq_self, Int.natCast_nonneg, Int.toNat_natCast, Int.ofNat_lt, D.int.injEq, Option.some.injEq, Nat.zero_add, Nat.add_zero, bne_iff_ne, bne_eq_false_iff_eq, beq_iff_eq, beq_eq_false_iff_ne, gt_iff_lt, ne_eq, not_true_eq_false, not_false_eq_true, planIds, hasExt, cntFs, idxFs, clnFs, ovlFs, List.contains_cons, List.contains_nil, List.any_cons, List.any_nil, Nat.reduceBEq, Nat.reduceMul, Nat.reduceAdd, ↓reduceIte, TB, hal, h0, h1, h2, h7, h8, h9, h10, h20, h21, h22, h31', h32, h33, hlt', hq', encF, List.getElem?_map, set_last, get_last, hmx1, hmx2, hW, wrap_ok, Int.natCast_add, Int.natCast_one]
      exact ⟨hrW, _, _, rfl, hgW, htk.symm⟩
    · simp (maxSteps := 1000000) (disch := omega) only [push_cast, ↓wc_seq, ↓wc_block, ↓wc_scope, ↓wc_condL, ↓wc_region, ↓wr_cons, ↓wr_consgL, ↓wr_nil, ↓wo_pickL, ↓wo_callf, ↓wc_exit, ↓wc_ret, ↓wc_skip, ↓wc_wl, wo_some, wo_none, wo_ite, opQ_eq, seqQ_normal, seqQ_exit, seqQ_ret, blockQ_normal, blockQ_exit, blockQ_ret, iterQ_normal, iterQ_exit, iterQ_ret, retQ_normal, retQ_ret, retQ_exit, pickC_true, pickC_false, pickO_true, pickO_false, gstep_tt, gstep_ff, gstep_tf, gstep_ft, gstep_skip, int_bne, int_beq, decide_not, Nat.reduceAdd, Nat.reduceMul, Nat.reduceSub, Nat.reducePow, Nat.reduceLT, Nat.reduceLeDiff, Nat.reduceEqDiff, Int.reduceToNat, Int.reduceAdd, Int.reduceSub, Int.reduceNeg, Int.reduceMul, Int.reduceLT, Int.reduceLE, Int.reduceEq, le_max, ↓wo_build, ↓wo_buildSlice, evParts, ↓reduceIte, planIds, hasExt, cntFs, idxFs, clnFs, ovlFs, List.contains_cons, List.contains_nil, List.any_cons, List.any_nil, Nat.reduceBEq, setC, List.length_set, decide_eq_true_eq, decide_eq_false_iff_not, true_implies, false_implies, forall_const, reduceCtorEq, eq_self, Int.natCast_nonneg, Int.toNat_natCast, Int.ofNat_lt, D.int.injEq, Option.some.injEq, Nat.zero_add, Nat.add_zero, bne_iff_ne, bne_eq_false_iff_eq, beq_iff_eq, beq_eq_false_iff_ne, gt_iff_lt, ne_eq, not_true_eq_false, not_false_eq_true, planIds, hasExt, cntFs, idxFs, clnFs, ovlFs, List.contains_cons, List.contains_nil, List.any_cons, List.any_nil, Nat.reduceBEq, Nat.reduceMul, Nat.reduceAdd, ↓reduceIte, TB, hal, h0, h1, h2, h7, h8, h9, h10, h20, h21, h22, h31', h32, h33, Nat.lt_irrefl]
      exact ⟨hr, _, _, rfl, hg, by rw [List.take_length]⟩
  clear hal h0 h1 h2 h7 h8 h9 h10 h20 h21 h22 a hr hg
  rintro a U ⟨⟨hal, h0, h1, h2, h20, h21, h22⟩, h8, h9, h10, hr, d', fs', h7, hg, rfl⟩
  generalize hf1 : fs ++ preF q (chT t) = f1 at hg
  have hl1 : f1.length ≤ 96 * i + 88 := by rw [← hf1, List.length_append, preF_len]; omega
  -- the booking
  refine wc_scut (fun a T => TB ts x db ds i a ∧ a[8]? = some (.int .i64 i) ∧ a[9]? = some (.loc p 0 0) ∧ a[10]? = some (.str q) ∧ T[p]? = some (.row 10 [t.enc]) ∧ ∃ d' fs', a[7]? = some d' ∧ GV T d' fs' ∧ fs' = f1 ++ ifF (!bs.any fun b => b.loc.toList == t.l.toList) 7 (q ++ ByteArray.mk #[46, 98, 111, 111, 107, 105, 110, 103])) ?_ ?_
  · obtain ⟨V, hV, hxV⟩ := hasB_c (n := 899) (F := 66) (ys := [.loc p 0 0]) (p := fun b => b.loc.toList == t.l.toList) (l := bs) (d := db) (S := U) (by omega) (by omega) hdb (by simp [pureL, D.pure]) (fun T hT b => clo1 (hT _ _ hr) b)
    have hV : callD E (dcall E 902) false U 65 [db, .func 66 [] [.loc p 0 0]] = _ := hV
    have hrV := hxV _ _ hr
    have hgV := hg.ext hxV
    obtain ⟨W, hW, hgW, hkW, -⟩ := app_g hgV (by omega) 7 (q ++ ByteArray.mk #[46, 98, 111, 111, 107, 105, 110, 103])
    have hrW := hkW p 10 _ (by decide) hrV
    have hmx : ¬ IntKind.i64.max < (q.size : Int) + ((ByteArray.mk #[46, 98, 111, 111, 107, 105, 110, 103]).size : Int) := by
      show ¬ (9223372036854775807 : Int) < (q.size : Int) + ((8 : Nat) : Int)
      omega
    cases hb : bs.any fun b => b.loc.toList == t.l.toList
    · rw [hb] at hV
      simp (maxSteps := 1000000) (disch := omega) only [push_cast, ↓wc_seq, ↓wc_block, ↓wc_scope, ↓wc_condL, ↓wc_region, ↓wr_cons, ↓wr_consgL, ↓wr_nil, ↓wo_pickL, ↓wo_callf, ↓wc_exit, ↓wc_ret, ↓wc_skip, ↓wc_wl, wo_some, wo_none, wo_ite, opQ_eq, seqQ_normal, seqQ_exit, seqQ_ret, blockQ_normal, blockQ_exit, blockQ_ret, iterQ_normal, iterQ_exit, iterQ_ret, retQ_normal, retQ_ret, retQ_exit, pickC_true, pickC_false, pickO_true, pickO_false, gstep_tt, gstep_ff, gstep_tf, gstep_ft, gstep_skip, int_bne, int_beq, decide_not, Nat.reduceAdd, Nat.reduceMul, Nat.reduceSub, Nat.reducePow, Nat.reduceLT, Nat.reduceLeDiff, Nat.reduceEqDiff, Int.reduceToNat, Int.reduceAdd, Int.reduceSub, Int.reduceNeg, Int.reduceMul, Int.reduceLT, Int.reduceLE, Int.reduceEq, le_max, ↓wo_build, ↓wo_buildSlice, evParts, ↓reduceIte, planIds, hasExt, cntFs, idxFs, clnFs, ovlFs, List.contains_cons, List.contains_nil, List.any_cons, List.any_nil, Nat.reduceBEq, setC, List.length_set, decide_eq_true_eq, decide_eq_false_iff_not, true_implies, false_implies, forall_const, reduceCtorEq, eq_self, Int.natCast_nonneg, Int.toNat_natCast, Int.ofNat_lt, D.int.injEq, Option.some.injEq, Nat.zero_add, Nat.add_zero, bne_iff_ne, bne_eq_false_iff_eq, beq_iff_eq, beq_eq_false_iff_ne, gt_iff_lt, ne_eq, not_true_eq_false, not_false_eq_true, planIds, hasExt, cntFs, idxFs, clnFs, ovlFs, List.contains_cons, List.contains_nil, List.any_cons, List.any_nil, Nat.reduceBEq, Nat.reduceMul, Nat.reduceAdd, ↓reduceIte, TB, hal, h0, h1, h2, h7, h8, h9, h10, h20, h21, h22, hV, hW, hmx, dUn, Bool.not_false]
      exact ⟨hrW, _, _, rfl, hgW, rfl⟩
    · rw [hb] at hV
      simp (maxSteps := 1000000) (disch := omega) only [push_cast, ↓wc_seq, ↓wc_block, ↓wc_scope, ↓wc_condL, ↓wc_region, ↓wr_cons, ↓wr_consgL, ↓wr_nil, ↓wo_pickL, ↓wo_callf, ↓wc_exit, ↓wc_ret, ↓wc_skip, ↓wc_wl, wo_some, wo_none, wo_ite, opQ_eq, seqQ_normal, seqQ_exit, seqQ_ret, blockQ_normal, blockQ_exit, blockQ_ret, iterQ_normal, iterQ_exit, iterQ_ret, retQ_normal, retQ_ret, retQ_exit, pickC_true, pickC_false, pickO_true, pickO_false, gstep_tt, gstep_ff, gstep_tf, gstep_ft, gstep_skip, int_bne, int_beq, decide_not, Nat.reduceAdd, Nat.reduceMul, Nat.reduceSub, Nat.reducePow, Nat.reduceLT, Nat.reduceLeDiff, Nat.reduceEqDiff, Int.reduceToNat, Int.reduceAdd, Int.reduceSub, Int.reduceNeg, Int.reduceMul, Int.reduceLT, Int.reduceLE, Int.reduceEq, le_max, ↓wo_build, ↓wo_buildSlice, evParts, ↓reduceIte, planIds, hasExt, cntFs, idxFs, clnFs, ovlFs, List.contains_cons, List.contains_nil, List.any_cons, List.any_nil, Nat.reduceBEq, setC, List.length_set, decide_eq_true_eq, decide_eq_false_iff_not, true_implies, false_implies, forall_const, reduceCtorEq, eq_self, Int.natCast_nonneg, Int.toNat_natCast, Int.ofNat_lt, D.int.injEq, Option.some.injEq, Nat.zero_add, Nat.add_zero, bne_iff_ne, bne_eq_false_iff_eq, beq_iff_eq, beq_eq_false_iff_ne, gt_iff_lt, ne_eq, not_true_eq_false, not_false_eq_true, planIds, hasExt, cntFs, idxFs, clnFs, ovlFs, List.contains_cons, List.contains_nil, List.any_cons, List.any_nil, Nat.reduceBEq, Nat.reduceMul, Nat.reduceAdd, ↓reduceIte, TB, hal, h0, h1, h2, h7, h8, h9, h10, h20, h21, h22, hV, dUn, Bool.not_true]
      exact ⟨hrV, _, _, rfl, hgV, by simp [ifF]⟩
  clear hal h0 h1 h2 h7 h8 h9 h10 h20 h21 h22 a hr hg
  rintro a U ⟨⟨hal, h0, h1, h2, h20, h21, h22⟩, h8, h9, h10, hr, d', fs', h7, hg, rfl⟩
  generalize hf2 : f1 ++ ifF (!bs.any fun b => b.loc.toList == t.l.toList) 7 (q ++ ByteArray.mk #[46, 98, 111, 111, 107, 105, 110, 103]) = f2 at hg
  have hl2 : f2.length ≤ 96 * i + 89 := by
    have := ifF_len (!bs.any fun b => b.loc.toList == t.l.toList) 7 (q ++ ByteArray.mk #[46, 98, 111, 111, 107, 105, 110, 103])
    rw [← hf2, List.length_append]; omega
  -- the same number
  refine wc_scut (fun a T => TB ts x db ds i a ∧ a[8]? = some (.int .i64 i) ∧ a[9]? = some (.loc p 0 0) ∧ a[10]? = some (.str q) ∧ T[p]? = some (.row 10 [t.enc]) ∧ ∃ d' fs', a[7]? = some d' ∧ GV T d' fs' ∧ fs' = f2 ++ ifF ((ts.take i).any fun p => decide (p.n = t.n)) 6 q) ?_ ?_
  · have hlt' : (ts.take i).length ≤ 10 := by rw [List.length_take]; omega
    obtain ⟨V, hV, hxV⟩ := hasT_c (n := 899) (F := 68) (ys := [.loc p 0 0]) (p := fun p => decide (p.n = t.n)) (l := ts.take i) (d := .sl 10 ((ts.take i).map Tk2.enc) (x && decide (i = ts.length))) (S := U) (by omega) (by omega) (.inr ⟨_, rfl⟩) (by simp [pureL, D.pure]) (fun T hT b => clo2 (hT _ _ hr) b)
    rw [List.map_take] at hV
    have hV : callD E (dcall E 902) false U 67 [.sl 10 ((ts.map Tk2.enc).take i) (x && decide (i = ts.length)), .func 68 [] [.loc p 0 0]] = _ := hV
    have hrV := hxV _ _ hr
    have hgV := hg.ext hxV
    obtain ⟨W, hW, hgW, hkW, -⟩ := app_g hgV (by omega) 6 q
    have hrW := hkW p 10 _ (by decide) hrV
    have hle : i ≤ ts.length := hi
    cases hb : (ts.take i).any fun p => decide (p.n = t.n)
    · rw [hb] at hV
      simp (maxSteps := 1000000) (disch := omega) only [push_cast, ↓wc_seq, ↓wc_block, ↓wc_scope, ↓wc_condL, ↓wc_region, ↓wr_cons, ↓wr_consgL, ↓wr_nil, ↓wo_pickL, ↓wo_callf, ↓wc_exit, ↓wc_ret, ↓wc_skip, ↓wc_wl, wo_some, wo_none, wo_ite, opQ_eq, seqQ_normal, seqQ_exit, seqQ_ret, blockQ_normal, blockQ_exit, blockQ_ret, iterQ_normal, iterQ_exit, iterQ_ret, retQ_normal, retQ_ret, retQ_exit, pickC_true, pickC_false, pickO_true, pickO_false, gstep_tt, gstep_ff, gstep_tf, gstep_ft, gstep_skip, int_bne, int_beq, decide_not, Nat.reduceAdd, Nat.reduceMul, Nat.reduceSub, Nat.reducePow, Nat.reduceLT, Nat.reduceLeDiff, Nat.reduceEqDiff, Int.reduceToNat, Int.reduceAdd, Int.reduceSub, Int.reduceNeg, Int.reduceMul, Int.reduceLT, Int.reduceLE, Int.reduceEq, le_max, ↓wo_build, ↓wo_buildSlice, evParts, ↓reduceIte, planIds, hasExt, cntFs, idxFs, clnFs, ovlFs, List.contains_cons, List.contains_nil, List.any_cons, List.any_nil, Nat.reduceBEq, setC, List.length_set, decide_eq_true_eq, decide_eq_false_iff_not, true_implies, false_implies, forall_const, reduceCtorEq, eq_self, Int.natCast_nonneg, Int.toNat_natCast, Int.ofNat_lt, D.int.injEq, Option.some.injEq, Nat.zero_add, Nat.add_zero, bne_iff_ne, bne_eq_false_iff_eq, beq_iff_eq, beq_eq_false_iff_ne, gt_iff_lt, ne_eq, not_true_eq_false, not_false_eq_true, planIds, hasExt, cntFs, idxFs, clnFs, ovlFs, List.contains_cons, List.contains_nil, List.any_cons, List.any_nil, Nat.reduceBEq, Nat.reduceMul, Nat.reduceAdd, ↓reduceIte, TB, hal, h0, h1, h2, h7, h8, h9, h10, h20, h21, h22, hV, hle, List.length_map, Nat.zero_le, Nat.sub_zero, List.drop_zero]
      exact ⟨hrV, _, _, rfl, hgV, by simp [ifF]⟩
    · rw [hb] at hV
      simp (maxSteps := 1000000) (disch := omega) only [push_cast, ↓wc_seq, ↓wc_block, ↓wc_scope, ↓wc_condL, ↓wc_region, ↓wr_cons, ↓wr_consgL, ↓wr_nil, ↓wo_pickL, ↓wo_callf, ↓wc_exit, ↓wc_ret, ↓wc_skip, ↓wc_wl, wo_some, wo_none, wo_ite, opQ_eq, seqQ_normal, seqQ_exit, seqQ_ret, blockQ_normal, blockQ_exit, blockQ_ret, iterQ_normal, iterQ_exit, iterQ_ret, retQ_normal, retQ_ret, retQ_exit, pickC_true, pickC_false, pickO_true, pickO_false, gstep_tt, gstep_ff, gstep_tf, gstep_ft, gstep_skip, int_bne, int_beq, decide_not, Nat.reduceAdd, Nat.reduceMul, Nat.reduceSub, Nat.reducePow, Nat.reduceLT, Nat.reduceLeDiff, Nat.reduceEqDiff, Int.reduceToNat, Int.reduceAdd, Int.reduceSub, Int.reduceNeg, Int.reduceMul, Int.reduceLT, Int.reduceLE, Int.reduceEq, le_max, ↓wo_build, ↓wo_buildSlice, evParts, ↓reduceIte, planIds, hasExt, cntFs, idxFs, clnFs, ovlFs, List.contains_cons, List.contains_nil, List.any_cons, List.any_nil, Nat.reduceBEq, setC, List.length_set, decide_eq_true_eq, decide_eq_false_iff_not, true_implies, false_implies, forall_const, reduceCtorEq, eq_self, Int.natCast_nonneg, Int.toNat_natCast, Int.ofNat_lt, D.int.injEq, Option.some.injEq, Nat.zero_add, Nat.add_zero, bne_iff_ne, bne_eq_false_iff_eq, beq_iff_eq, beq_eq_false_iff_ne, gt_iff_lt, ne_eq, not_true_eq_false, not_false_eq_true, planIds, hasExt, cntFs, idxFs, clnFs, ovlFs, List.contains_cons, List.contains_nil, List.any_cons, List.any_nil, Nat.reduceBEq, Nat.reduceMul, Nat.reduceAdd, ↓reduceIte, TB, hal, h0, h1, h2, h7, h8, h9, h10, h20, h21, h22, hV, hW, hle, List.length_map, Nat.zero_le, Nat.sub_zero, List.drop_zero]
      exact ⟨hrW, _, _, rfl, hgW, rfl⟩
  clear hal h0 h1 h2 h7 h8 h9 h10 h20 h21 h22 a hr hg
  rintro a U ⟨⟨hal, h0, h1, h2, h20, h21, h22⟩, h8, h9, h10, hr, d', fs', h7, hg, rfl⟩
  generalize hf3 : f2 ++ ifF ((ts.take i).any fun p => decide (p.n = t.n)) 6 q = f3 at hg
  have hl3 : f3.length ≤ 96 * i + 90 := by
    have := ifF_len ((ts.take i).any fun p => decide (p.n = t.n)) 6 q
    rw [← hf3, List.length_append]; omega
  -- the states
  clear hf1 hf2
  have h6 : t.six.length ≤ 6 := by unfold Tk2.six; rw [List.length_take]; omega
  refine wc_mono (Q := fun e a T => e = .normal ∧ TB ts x db ds i a ∧ ∃ d' fs', a[7]? = some d' ∧ GV T d' fs' ∧ fs' = f3 ++ stF q sts t.n 0 t.six) ?_ ?_
  case refine_2 =>
    rintro e a T ⟨rfl, hb, d', fs', h7, hg, e⟩
    have := stF_len q sts t.n t.six 0
    exact ⟨rfl, hb, _, _, h7, hg, by rw [e, ← hf3], by rw [e, List.length_append]; omega⟩
  have hr' := hr
  rw [Tk2.enc_eq] at hr'
  refine wc_scut (fun a T' => TB ts x db ds i a ∧ a[7]? = some d' ∧ a[9]? = some (.loc p 0 0) ∧ a[10]? = some (.str q) ∧ (∃ d75, a[75]? = some d75 ∧ ((d75 = .nils ∧ t.six = []) ∨ ∃ y, d75 = .sl 11 (t.six.map Cpn.enc) y)) ∧ a[76]? = some (.int .i64 t.six.length) ∧ a[77]? = some (.int .i64 0) ∧ T' = U) ?_ ?_
  · rcases t.hc with ⟨e1, e2⟩ | ⟨y, e1⟩
    · have e3 : t.six = [] := by unfold Tk2.six; rw [e2]; rfl
      rw [e1] at hr'
      simp (maxSteps := 1000000) (disch := omega) only [push_cast, ↓wc_seq, ↓wc_block, ↓wc_scope, ↓wc_condL, ↓wc_region, ↓wr_cons, ↓wr_consgL, ↓wr_nil, ↓wo_pickL, ↓wo_callf, ↓wc_exit, ↓wc_ret, ↓wc_skip, ↓wc_wl, wo_some, wo_none, wo_ite, opQ_eq, seqQ_normal, seqQ_exit, seqQ_ret, blockQ_normal, blockQ_exit, blockQ_ret, iterQ_normal, iterQ_exit, iterQ_ret, retQ_normal, retQ_ret, retQ_exit, pickC_true, pickC_false, pickO_true, pickO_false, gstep_tt, gstep_ff, gstep_tf, gstep_ft, gstep_skip, int_bne, int_beq, decide_not, Nat.reduceAdd, Nat.reduceMul, Nat.reduceSub, Nat.reducePow, Nat.reduceLT, Nat.reduceLeDiff, Nat.reduceEqDiff, Int.reduceToNat, Int.reduceAdd, Int.reduceSub, Int.reduceNeg, Int.reduceMul, Int.reduceLT, Int.reduceLE, Int.reduceEq, le_max, ↓wo_build, ↓wo_buildSlice, evParts, ↓reduceIte, planIds, hasExt, cntFs, idxFs, clnFs, ovlFs, List.contains_cons, List.contains_nil, List.any_cons, List.any_nil, Nat.reduceBEq, setC, List.length_set, decide_eq_true_eq, decide_eq_false_iff_not, true_implies, false_implies, forall_const, reduceCtorEq, eq_self, Int.natCast_nonneg, Int.toNat_natCast, Int.ofNat_lt, D.int.injEq, Option.some.injEq, Nat.zero_add, Nat.add_zero, bne_iff_ne, bne_eq_false_iff_eq, beq_iff_eq, beq_eq_false_iff_ne, gt_iff_lt, ne_eq, not_true_eq_false, not_false_eq_true, planIds, hasExt, cntFs, idxFs, clnFs, ovlFs, List.contains_cons, List.contains_nil, List.any_cons, List.any_nil, Nat.reduceBEq, Nat.reduceMul, Nat.reduceAdd, ↓reduceIte, TB, hal, h0, h1, h2, h7, h8, h9, h10, h20, h21, h22, hr', e3, Int.natCast_zero]
      exact ⟨_, rfl, .inl rfl⟩
    · rw [e1] at hr'
      by_cases c6 : (6 : Int) < t.cps.length
      · have e3 : t.six = t.cps.take 6 := by unfold Tk2.six; rw [Nat.min_eq_right (by omega)]
        have c7 : ¬ (t.cps.length : Int) < 6 := by omega
        have c8 : 6 ≤ t.cps.length := by omega
        simp (maxSteps := 1000000) (disch := omega) only [push_cast, ↓wc_seq, ↓wc_block, ↓wc_scope, ↓wc_condL, ↓wc_region, ↓wr_cons, ↓wr_consgL, ↓wr_nil, ↓wo_pickL, ↓wo_callf, ↓wc_exit, ↓wc_ret, ↓wc_skip, ↓wc_wl, wo_some, wo_none, wo_ite, opQ_eq, seqQ_normal, seqQ_exit, seqQ_ret, blockQ_normal, blockQ_exit, blockQ_ret, iterQ_normal, iterQ_exit, iterQ_ret, retQ_normal, retQ_ret, retQ_exit, pickC_true, pickC_false, pickO_true, pickO_false, gstep_tt, gstep_ff, gstep_tf, gstep_ft, gstep_skip, int_bne, int_beq, decide_not, Nat.reduceAdd, Nat.reduceMul, Nat.reduceSub, Nat.reducePow, Nat.reduceLT, Nat.reduceLeDiff, Nat.reduceEqDiff, Int.reduceToNat, Int.reduceAdd, Int.reduceSub, Int.reduceNeg, Int.reduceMul, Int.reduceLT, Int.reduceLE, Int.reduceEq, le_max, ↓wo_build, ↓wo_buildSlice, evParts, ↓reduceIte, planIds, hasExt, cntFs, idxFs, clnFs, ovlFs, List.contains_cons, List.contains_nil, List.any_cons, List.any_nil, Nat.reduceBEq, setC, List.length_set, decide_eq_true_eq, decide_eq_false_iff_not, true_implies, false_implies, forall_const, reduceCtorEq, eq_self, Int.natCast_nonneg, Int.toNat_natCast, Int.ofNat_lt, D.int.injEq, Option.some.injEq, Nat.zero_add, Nat.add_zero, bne_iff_ne, bne_eq_false_iff_eq, beq_iff_eq, beq_eq_false_iff_ne, gt_iff_lt, ne_eq, not_true_eq_false, not_false_eq_true, planIds, hasExt, cntFs, idxFs, clnFs, ovlFs, List.contains_cons, List.contains_nil, List.any_cons, List.any_nil, Nat.reduceBEq, Nat.reduceMul, Nat.reduceAdd, ↓reduceIte, TB, hal, h0, h1, h2, h7, h8, h9, h10, h20, h21, h22, hr', e3, c6, c7, c8, List.length_map, Nat.sub_zero, Nat.zero_le]
        exact ⟨⟨_, rfl, .inr ⟨_, by rw [List.map_take]⟩⟩, by simp⟩
      · have e3 : t.six = t.cps := by unfold Tk2.six; rw [Nat.min_eq_left (by omega), List.take_length]
        simp (maxSteps := 1000000) (disch := omega) only [push_cast, ↓wc_seq, ↓wc_block, ↓wc_scope, ↓wc_condL, ↓wc_region, ↓wr_cons, ↓wr_consgL, ↓wr_nil, ↓wo_pickL, ↓wo_callf, ↓wc_exit, ↓wc_ret, ↓wc_skip, ↓wc_wl, wo_some, wo_none, wo_ite, opQ_eq, seqQ_normal, seqQ_exit, seqQ_ret, blockQ_normal, blockQ_exit, blockQ_ret, iterQ_normal, iterQ_exit, iterQ_ret, retQ_normal, retQ_ret, retQ_exit, pickC_true, pickC_false, pickO_true, pickO_false, gstep_tt, gstep_ff, gstep_tf, gstep_ft, gstep_skip, int_bne, int_beq, decide_not, Nat.reduceAdd, Nat.reduceMul, Nat.reduceSub, Nat.reducePow, Nat.reduceLT, Nat.reduceLeDiff, Nat.reduceEqDiff, Int.reduceToNat, Int.reduceAdd, Int.reduceSub, Int.reduceNeg, Int.reduceMul, Int.reduceLT, Int.reduceLE, Int.reduceEq, le_max, ↓wo_build, ↓wo_buildSlice, evParts, ↓reduceIte, planIds, hasExt, cntFs, idxFs, clnFs, ovlFs, List.contains_cons, List.contains_nil, List.any_cons, List.any_nil, Nat.reduceBEq, setC, List.length_set, decide_eq_true_eq, decide_eq_false_iff_not, true_implies, false_implies, forall_const, reduceCtorEq, eq_self, Int.natCast_nonneg, Int.toNat_natCast, Int.ofNat_lt, D.int.injEq, Option.some.injEq, Nat.zero_add, Nat.add_zero, bne_iff_ne, bne_eq_false_iff_eq, beq_iff_eq, beq_eq_false_iff_ne, gt_iff_lt, ne_eq, not_true_eq_false, not_false_eq_true, planIds, hasExt, cntFs, idxFs, clnFs, ovlFs, List.contains_cons, List.contains_nil, List.any_cons, List.any_nil, Nat.reduceBEq, Nat.reduceMul, Nat.reduceAdd, ↓reduceIte, TB, hal, h0, h1, h2, h7, h8, h9, h10, h20, h21, h22, hr', e3, c6, List.length_map, Nat.sub_zero, Nat.zero_le, Nat.le_refl]
        exact ⟨⟨_, rfl, .inr ⟨_, by rw [← List.length_map (f := Cpn.enc), List.take_length]⟩⟩, by simp⟩
  clear hal h0 h1 h2 h7 h8 h9 h10 h20 h21 h22 a hr'
  rintro a U' ⟨⟨hal, h0, h1, h2, h20, h21, h22⟩, h7, h9, h10, ⟨d75, h75, hd75⟩, h76, h77, rfl⟩
  rw [wc_block, wc_wl]
  refine wl_loop (fun k a T => TB ts x db ds i a ∧ a[9]? = some (.loc p 0 0) ∧ a[10]? = some (.str q) ∧ a[75]? = some d75 ∧ a[76]? = some (.int .i64 t.six.length) ∧ a[77]? = some (.int .i64 k) ∧ T[p]? = some (.row 10 [t.enc]) ∧ ∃ d' fs', a[7]? = some d' ∧ GV T d' fs' ∧ f3 ++ stF q sts t.n 0 t.six = fs' ++ stF q sts t.n k (t.six.drop k) ∧ fs'.length ≤ 96 * i + 90 + k) t.six.length ?_ (by omega) ?_
  · exact ⟨⟨hal, h0, h1, h2, h20, h21, h22⟩, h9, h10, h75, h76, h77, hr, _, _, h7, hg, rfl, by omega⟩
  clear hal h0 h1 h2 h7 h9 h10 h20 h21 h22 a hr hg h75 h76 h77 hl3 hf3
  rintro k a T hk ⟨⟨hal, h0, h1, h2, h20, h21, h22⟩, h9, h10, h75, h76, h77, hr, d', fs', h7, hg, hv', hfl'⟩
  rcases Nat.lt_or_eq_of_le hk with hlt' | rfl
  case inr =>
    rw [List.drop_length, stF, List.append_nil] at hv'
    simp (maxSteps := 1000000) (disch := omega) only [push_cast, ↓wc_seq, ↓wc_block, ↓wc_scope, ↓wc_condL, ↓wc_region, ↓wr_cons, ↓wr_consgL, ↓wr_nil, ↓wo_pickL, ↓wo_callf, ↓wc_exit, ↓wc_ret, ↓wc_skip, ↓wc_wl, wo_some, wo_none, wo_ite, opQ_eq, seqQ_normal, seqQ_exit, seqQ_ret, blockQ_normal, blockQ_exit, blockQ_ret, iterQ_normal, iterQ_exit, iterQ_ret, retQ_normal, retQ_ret, retQ_exit, pickC_true, pickC_false, pickO_true, pickO_false, gstep_tt, gstep_ff, gstep_tf, gstep_ft, gstep_skip, int_bne, int_beq, decide_not, Nat.reduceAdd, Nat.reduceMul, Nat.reduceSub, Nat.reducePow, Nat.reduceLT, Nat.reduceLeDiff, Nat.reduceEqDiff, Int.reduceToNat, Int.reduceAdd, Int.reduceSub, Int.reduceNeg, Int.reduceMul, Int.reduceLT, Int.reduceLE, Int.reduceEq, le_max, ↓wo_build, ↓wo_buildSlice, evParts, ↓reduceIte, planIds, hasExt, cntFs, idxFs, clnFs, ovlFs, List.contains_cons, List.contains_nil, List.any_cons, List.any_nil, Nat.reduceBEq, setC, List.length_set, decide_eq_true_eq, decide_eq_false_iff_not, true_implies, false_implies, forall_const, reduceCtorEq, eq_self, Int.natCast_nonneg, Int.toNat_natCast, Int.ofNat_lt, D.int.injEq, Option.some.injEq, Nat.zero_add, Nat.add_zero, bne_iff_ne, bne_eq_false_iff_eq, beq_iff_eq, beq_eq_false_iff_ne, gt_iff_lt, ne_eq, not_true_eq_false, not_false_eq_true, planIds, hasExt, cntFs, idxFs, clnFs, ovlFs, List.contains_cons, List.contains_nil, List.any_cons, List.any_nil, Nat.reduceBEq, Nat.reduceMul, Nat.reduceAdd, ↓reduceIte, TB, hal, h0, h1, h2, h7, h9, h10, h20, h21, h22, h75, h76, h77, Nat.lt_irrefl]
    exact ⟨_, _, rfl, hg, hv'.symm⟩
  rcases hd75 with ⟨-, e75⟩ | ⟨y, rfl⟩
  · rw [e75] at hlt'; simp at hlt'
  obtain ⟨c, hc⟩ : ∃ c, t.six[k]? = some c := ⟨t.six[k], by simp [hlt']⟩
  rw [drop_at hc, stF] at hv'
  have hk32 : k < 32 := by omega
  -- the head of the loop
  refine wc_scut (fun a T' => TB ts x db ds i a ∧ a[7]? = some d' ∧ a[9]? = some (.loc p 0 0) ∧ a[10]? = some (.str q) ∧ a[75]? = some (.sl 11 (t.six.map Cpn.enc) y) ∧ a[76]? = some (.int .i64 t.six.length) ∧ a[77]? = some (.int .i64 k) ∧ a[78]? = some (.bool true) ∧ T' = T) ?_ ?_
  · simp (maxSteps := 1000000) (disch := omega) only [push_cast, ↓wc_seq, ↓wc_block, ↓wc_scope, ↓wc_condL, ↓wc_region, ↓wr_cons, ↓wr_consgL, ↓wr_nil, ↓wo_pickL, ↓wo_callf, ↓wc_exit, ↓wc_ret, ↓wc_skip, ↓wc_wl, wo_some, wo_none, wo_ite, opQ_eq, seqQ_normal, seqQ_exit, seqQ_ret, blockQ_normal, blockQ_exit, blockQ_ret, iterQ_normal, iterQ_exit, iterQ_ret, retQ_normal, retQ_ret, retQ_exit, pickC_true, pickC_false, pickO_true, pickO_false, gstep_tt, gstep_ff, gstep_tf, gstep_ft, gstep_skip, int_bne, int_beq, decide_not, Nat.reduceAdd, Nat.reduceMul, Nat.reduceSub, Nat.reducePow, Nat.reduceLT, Nat.reduceLeDiff, Nat.reduceEqDiff, Int.reduceToNat, Int.reduceAdd, Int.reduceSub, Int.reduceNeg, Int.reduceMul, Int.reduceLT, Int.reduceLE, Int.reduceEq, le_max, ↓wo_build, ↓wo_buildSlice, evParts, ↓reduceIte, planIds, hasExt, cntFs, idxFs, clnFs, ovlFs, List.contains_cons, List.contains_nil, List.any_cons, List.any_nil, Nat.reduceBEq, setC, List.length_set, decide_eq_true_eq, decide_eq_false_iff_not, true_implies, false_implies, forall_const, reduceCtorEq, eq_self, Int.natCast_nonneg, Int.toNat_natCast, Int.ofNat_lt, D.int.injEq, Option.some.injEq, Nat.zero_add, Nat.add_zero, bne_iff_ne, bne_eq_false_iff_eq, beq_iff_eq, beq_eq_false_iff_ne, gt_iff_lt, ne_eq, not_true_eq_false, not_false_eq_true, planIds, hasExt, cntFs, idxFs, clnFs, ovlFs, List.contains_cons, List.contains_nil, List.any_cons, List.any_nil, Nat.reduceBEq, Nat.reduceMul, Nat.reduceAdd, ↓reduceIte, TB, hal, h0, h1, h2, h7, h9, h10, h20, h21, h22, h75, h76, h77, hlt']
  clear hal h0 h1 h2 h7 h9 h10 h20 h21 h22 a h75 h76 h77
  rintro a U ⟨⟨hal, h0, h1, h2, h20, h21, h22⟩, h7, h9, h10, h75, h76, h77, h78, rfl⟩
  refine wc_scut (fun a T' => TB ts x db ds i a ∧ a[7]? = some d' ∧ a[9]? = some (.loc p 0 0) ∧ a[10]? = some (.str q) ∧ a[75]? = some (.sl 11 (t.six.map Cpn.enc) y) ∧ a[76]? = some (.int .i64 t.six.length) ∧ a[77]? = some (.int .i64 k) ∧ T' = U) ?_ ?_
  · simp (maxSteps := 1000000) (disch := omega) only [push_cast, ↓wc_seq, ↓wc_block, ↓wc_scope, ↓wc_condL, ↓wc_region, ↓wr_cons, ↓wr_consgL, ↓wr_nil, ↓wo_pickL, ↓wo_callf, ↓wc_exit, ↓wc_ret, ↓wc_skip, ↓wc_wl, wo_some, wo_none, wo_ite, opQ_eq, seqQ_normal, seqQ_exit, seqQ_ret, blockQ_normal, blockQ_exit, blockQ_ret, iterQ_normal, iterQ_exit, iterQ_ret, retQ_normal, retQ_ret, retQ_exit, pickC_true, pickC_false, pickO_true, pickO_false, gstep_tt, gstep_ff, gstep_tf, gstep_ft, gstep_skip, int_bne, int_beq, decide_not, Nat.reduceAdd, Nat.reduceMul, Nat.reduceSub, Nat.reducePow, Nat.reduceLT, Nat.reduceLeDiff, Nat.reduceEqDiff, Int.reduceToNat, Int.reduceAdd, Int.reduceSub, Int.reduceNeg, Int.reduceMul, Int.reduceLT, Int.reduceLE, Int.reduceEq, le_max, ↓wo_build, ↓wo_buildSlice, evParts, ↓reduceIte, planIds, hasExt, cntFs, idxFs, clnFs, ovlFs, List.contains_cons, List.contains_nil, List.any_cons, List.any_nil, Nat.reduceBEq, setC, List.length_set, decide_eq_true_eq, decide_eq_false_iff_not, true_implies, false_implies, forall_const, reduceCtorEq, eq_self, Int.natCast_nonneg, Int.toNat_natCast, Int.ofNat_lt, D.int.injEq, Option.some.injEq, Nat.zero_add, Nat.add_zero, bne_iff_ne, bne_eq_false_iff_eq, beq_iff_eq, beq_eq_false_iff_ne, gt_iff_lt, ne_eq, not_true_eq_false, not_false_eq_true, planIds, hasExt, cntFs, idxFs, clnFs, ovlFs, List.contains_cons, List.contains_nil, List.any_cons, List.any_nil, Nat.reduceBEq, Nat.reduceMul, Nat.reduceAdd, ↓reduceIte, TB, hal, h0, h1, h2, h7, h9, h10, h20, h21, h22, h75, h76, h77, h78]
  clear hal h0 h1 h2 h7 h9 h10 h20 h21 h22 a h75 h76 h77 h78
  rintro a T ⟨⟨hal, h0, h1, h2, h20, h21, h22⟩, h7, h9, h10, h75, h76, h77, rfl⟩
  refine wc_scut (fun a T => TB ts x db ds i a ∧ a[9]? = some (.loc p 0 0) ∧ a[10]? = some (.str q) ∧ a[75]? = some (.sl 11 (t.six.map Cpn.enc) y) ∧ a[76]? = some (.int .i64 t.six.length) ∧ a[77]? = some (.int .i64 k) ∧ T[p]? = some (.row 10 [t.enc]) ∧ ∃ d' fs', a[7]? = some d' ∧ GV T d' fs' ∧ f3 ++ stF q sts t.n 0 t.six = fs' ++ stF q sts t.n (k + 1) (t.six.drop (k + 1)) ∧ fs'.length ≤ 96 * i + 90 + (k + 1)) ?_ ?_
  case refine_2 =>
    clear hal h0 h1 h2 h7 h9 h10 h20 h21 h22 a h75 h76 h77 hr hg
    rintro a T ⟨⟨hal, h0, h1, h2, h20, h21, h22⟩, h9, h10, h75, h76, h77, hr, d', fs', h7, hg, e, hl⟩
    simp (maxSteps := 1000000) (disch := omega) only [push_cast, ↓wc_seq, ↓wc_block, ↓wc_scope, ↓wc_condL, ↓wc_region, ↓wr_cons, ↓wr_consgL, ↓wr_nil, ↓wo_pickL, ↓wo_callf, ↓wc_exit, ↓wc_ret, ↓wc_skip, ↓wc_wl, wo_some, wo_none, wo_ite, opQ_eq, seqQ_normal, seqQ_exit, seqQ_ret, blockQ_normal, blockQ_exit, blockQ_ret, iterQ_normal, iterQ_exit, iterQ_ret, retQ_normal, retQ_ret, retQ_exit, pickC_true, pickC_false, pickO_true, pickO_false, gstep_tt, gstep_ff, gstep_tf, gstep_ft, gstep_skip, int_bne, int_beq, decide_not, Nat.reduceAdd, Nat.reduceMul, Nat.reduceSub, Nat.reducePow, Nat.reduceLT, Nat.reduceLeDiff, Nat.reduceEqDiff, Int.reduceToNat, Int.reduceAdd, Int.reduceSub, Int.reduceNeg, Int.reduceMul, Int.reduceLT, Int.reduceLE, Int.reduceEq, le_max, ↓wo_build, ↓wo_buildSlice, evParts, ↓reduceIte, planIds, hasExt, cntFs, idxFs, clnFs, ovlFs, List.contains_cons, List.contains_nil, List.any_cons, List.any_nil, Nat.reduceBEq, setC, List.length_set, decide_eq_true_eq, decide_eq_false_iff_not, true_implies, false_implies, forall_const, reduceCtorEq, eq_self, Int.natCast_nonneg, Int.toNat_natCast, Int.ofNat_lt, D.int.injEq, Option.some.injEq, Nat.zero_add, Nat.add_zero, bne_iff_ne, bne_eq_false_iff_eq, beq_iff_eq, beq_eq_false_iff_ne, gt_iff_lt, ne_eq, not_true_eq_false, not_false_eq_true, planIds, hasExt, cntFs, idxFs, clnFs, ovlFs, List.contains_cons, List.contains_nil, List.any_cons, List.any_nil, Nat.reduceBEq, Nat.reduceMul, Nat.reduceAdd, ↓reduceIte, TB, hal, h0, h1, h2, h7, h9, h10, h20, h21, h22, h75, h76, h77, wrap_ok, Int.natCast_add, Int.natCast_one]
    exact ⟨hlt', hr, _, _, rfl, hg, e, hl⟩
  rw [wc_block]
  -- the closure's cells
  refine wc_scut (fun a T' => TB ts x db ds i a ∧ a[7]? = some d' ∧ a[9]? = some (.loc p 0 0) ∧ a[10]? = some (.str q) ∧ a[13]? = some (.loc T.length 0 0) ∧ a[14]? = some (.loc (T.length + 1) 0 0) ∧ a[75]? = some (.sl 11 (t.six.map Cpn.enc) y) ∧ a[76]? = some (.int .i64 t.six.length) ∧ a[77]? = some (.int .i64 k) ∧ T' = T ++ [.row 1 [[.int .i64 k]]] ++ [.row 11 [c.enc]]) ?_ ?_
  · have hlast : ∀ (b : Ob) (c : Ob), ((T ++ [b]) ++ [c])[T.length + 1]? = some c := fun b c => by
      rw [show T.length + 1 = (T ++ [b]).length by simp]; exact get_end
    have hfst : ∀ (b : Ob) (c : Ob), ((T ++ [b]) ++ [c])[T.length]? = some b := fun b c => get_old get_end
    have sfst : ∀ (b b' : Ob) (c : Ob), ((T ++ [b]) ++ [c]).set T.length b' = (T ++ [b']) ++ [c] := fun b b' c => by simp
    have slst : ∀ (b : Ob) (c c' : Ob), ((T ++ [b]) ++ [c]).set (T.length + 1) c' = (T ++ [b]) ++ [c'] := fun b c c' => by
      rw [show T.length + 1 = (T ++ [b]).length by simp]; exact set_end
    simp (maxSteps := 1000000) (disch := omega) only [push_cast, ↓wc_seq, ↓wc_block, ↓wc_scope, ↓wc_condL, ↓wc_region, ↓wr_cons, ↓wr_consgL, ↓wr_nil, ↓wo_pickL, ↓wo_callf, ↓wc_exit, ↓wc_ret, ↓wc_skip, ↓wc_wl, wo_some, wo_none, wo_ite, opQ_eq, seqQ_normal, seqQ_exit, seqQ_ret, blockQ_normal, blockQ_exit, blockQ_ret, iterQ_normal, iterQ_exit, iterQ_ret, retQ_normal, retQ_ret, retQ_exit, pickC_true, pickC_false, pickO_true, pickO_false, gstep_tt, gstep_ff, gstep_tf, gstep_ft, gstep_skip, int_bne, int_beq, decide_not, Nat.reduceAdd, Nat.reduceMul, Nat.reduceSub, Nat.reducePow, Nat.reduceLT, Nat.reduceLeDiff, Nat.reduceEqDiff, Int.reduceToNat, Int.reduceAdd, Int.reduceSub, Int.reduceNeg, Int.reduceMul, Int.reduceLT, Int.reduceLE, Int.reduceEq, le_max, ↓wo_build, ↓wo_buildSlice, evParts, ↓reduceIte, planIds, hasExt, cntFs, idxFs, clnFs, ovlFs, List.contains_cons, List.contains_nil, List.any_cons, List.any_nil, Nat.reduceBEq, setC, List.length_set, decide_eq_true_eq, decide_eq_false_iff_not, true_implies, false_implies, forall_const, reduceCtorEq, eq_self, Int.natCast_nonneg, Int.toNat_natCast, Int.ofNat_lt, D.int.injEq, Option.some.injEq, Nat.zero_add, Nat.add_zero, bne_iff_ne, bne_eq_false_iff_eq, beq_iff_eq, beq_eq_false_iff_ne, gt_iff_lt, ne_eq, not_true_eq_false, not_false_eq_true, planIds, hasExt, cntFs, idxFs, clnFs, ovlFs, List.contains_cons, List.contains_nil, List.any_cons, List.any_nil, Nat.reduceBEq, Nat.reduceMul, Nat.reduceAdd, ↓reduceIte, TB, hal, h0, h1, h2, h7, h9, h10, h20, h21, h22, h75, h76, h77, hc, Cpn.enc, List.getElem?_map, List.length_append, List.length_cons, List.length_nil, hlast, hfst, sfst, slst]
  clear hal h0 h1 h2 h7 h9 h10 h20 h21 h22 a h75 h76 h77
  rintro a U ⟨⟨hal, h0, h1, h2, h20, h21, h22⟩, h7, h9, h10, h13, h14, h75, h76, h77, rfl⟩
  have hr2 : (T ++ [Ob.row 1 [[.int .i64 k]]] ++ [Ob.row 11 [c.enc]])[p]? = some (.row 10 [t.enc]) := get_old (get_old hr)
  have hk2 : (T ++ [Ob.row 1 [[.int .i64 k]]] ++ [Ob.row 11 [c.enc]])[T.length]? = some (.row 1 [[.int .i64 k]]) := get_old get_end
  have hc2 : (T ++ [Ob.row 1 [[.int .i64 k]]] ++ [Ob.row 11 [c.enc]])[T.length + 1]? = some (.row 11 [c.enc]) := by
    have : T.length + 1 = (T ++ [Ob.row 1 [[D.int .i64 k]]]).length := by simp
    rw [this]; exact get_end
  have hg2 := (hg.push (.row 1 [[.int .i64 k]])).push (.row 11 [c.enc])
  clear hr hg
  generalize T ++ [Ob.row 1 [[.int .i64 k]]] ++ [Ob.row 11 [c.enc]] = U at *
  generalize T.length = ck at *
  obtain ⟨V, hV, hxV⟩ := ixS_c (n := 900) (F := 70) (ys := [.loc p 0 0, .loc ck 0 0]) (p := fun s => decide (s.t = t.n) && decide (s.c = k)) (l := sts) (d := ds) (S := U) (by omega) (by omega) hds (by simp [pureL, D.pure]) (fun T hT s => clo3 (hT _ _ hr2) (hT _ _ hk2) s)
  have hV : callD E (dcall E 902) false U 69 [ds, .func 70 [] [.loc p 0 0, .loc ck 0 0]] = _ := hV
  have hrV := hxV _ _ hr2
  have hkV := hxV _ _ hk2
  have hcV := hxV _ _ hc2
  have hgV := hg2.ext hxV
  obtain ⟨W, hW, hgW, hkW, -⟩ := app_g hgV (by omega) 10 (q ++ ByteArray.mk #[46, 115, 116, 97, 116, 101, 115, 46] ++ decS k)
  have hrW := hkW p 10 _ (by decide) hrV
  have hds20 := dec_short hk32
  have dc := fun st S => dcm_c hk32 st S
  have hmx1 : ¬ IntKind.i64.max < (q.size : Int) + ((ByteArray.mk #[46, 115, 116, 97, 116, 101, 115, 46]).size : Int) := by
    show ¬ (9223372036854775807 : Int) < (q.size : Int) + ((8 : Nat) : Int)
    omega
  have hmx2 : ¬ IntKind.i64.max < ((q ++ ByteArray.mk #[46, 115, 116, 97, 116, 101, 115, 46]).size : Int) + ((decS k).size : Int) := by
    rw [ByteArray.size_append]
    show ¬ (9223372036854775807 : Int) < ((q.size + 8 : Nat) : Int) + ((decS k).size : Int)
    omega
  -- the end of a round
  have good : fs' ++ (ifF true 10 (q ++ ByteArray.mk #[46, 115, 116, 97, 116, 101, 115, 46] ++ decS k) ++ stF q sts t.n (k + 1) (t.six.drop (k + 1))) = fs' ++ [(10, q ++ ByteArray.mk #[46, 115, 116, 97, 116, 101, 115, 46] ++ decS k)] ++ stF q sts t.n (k + 1) (t.six.drop (k + 1)) := by simp [ifF]
  rcases fdx_spec (fun s : Stt => decide (s.t = t.n) && decide (s.c = k)) sts 0 with ⟨hf, hfd⟩ | ⟨m, s, hf, hm', hfd⟩
  · have hkn : knB sts t.n k c.st = false := by unfold knB; rw [hf]
    rw [hfd] at hV
    rw [hkn, Bool.not_false, good] at hv'
    simp (maxSteps := 1000000) (disch := omega) only [push_cast, ↓wc_seq, ↓wc_block, ↓wc_scope, ↓wc_condL, ↓wc_region, ↓wr_cons, ↓wr_consgL, ↓wr_nil, ↓wo_pickL, ↓wo_callf, ↓wc_exit, ↓wc_ret, ↓wc_skip, ↓wc_wl, wo_some, wo_none, wo_ite, opQ_eq, seqQ_normal, seqQ_exit, seqQ_ret, blockQ_normal, blockQ_exit, blockQ_ret, iterQ_normal, iterQ_exit, iterQ_ret, retQ_normal, retQ_ret, retQ_exit, pickC_true, pickC_false, pickO_true, pickO_false, gstep_tt, gstep_ff, gstep_tf, gstep_ft, gstep_skip, int_bne, int_beq, decide_not, Nat.reduceAdd, Nat.reduceMul, Nat.reduceSub, Nat.reducePow, Nat.reduceLT, Nat.reduceLeDiff, Nat.reduceEqDiff, Int.reduceToNat, Int.reduceAdd, Int.reduceSub, Int.reduceNeg, Int.reduceMul, Int.reduceLT, Int.reduceLE, Int.reduceEq, le_max, ↓wo_build, ↓wo_buildSlice, evParts, ↓reduceIte, planIds, hasExt, cntFs, idxFs, clnFs, ovlFs, List.contains_cons, List.contains_nil, List.any_cons, List.any_nil, Nat.reduceBEq, setC, List.length_set, decide_eq_true_eq, decide_eq_false_iff_not, true_implies, false_implies, forall_const, reduceCtorEq, eq_self, Int.natCast_nonneg, Int.toNat_natCast, Int.ofNat_lt, D.int.injEq, Option.some.injEq, Nat.zero_add, Nat.add_zero, bne_iff_ne, bne_eq_false_iff_eq, beq_iff_eq, beq_eq_false_iff_ne, gt_iff_lt, ne_eq, not_true_eq_false, not_false_eq_true, planIds, hasExt, cntFs, idxFs, clnFs, ovlFs, List.contains_cons, List.contains_nil, List.any_cons, List.any_nil, Nat.reduceBEq, Nat.reduceMul, Nat.reduceAdd, ↓reduceIte, TB, hal, h0, h1, h2, h7, h9, h10, h13, h14, h20, h21, h22, h75, h76, h77, hV, hkV, hcV, dc, hmx1, hmx2, hW, wrap_ok, Int.natCast_add, Int.natCast_one, Nat.zero_add]
    exact ⟨hrW, _, _, rfl, hgW, hv', by rw [List.length_append]; simp only [List.length_cons, List.length_nil]; omega⟩
  · rcases hds with ⟨-, e⟩ | ⟨z, rfl⟩
    · rw [e] at hm'; simp at hm'
    have hneg : ¬ ((0 + m : Nat) : Int) < 0 := by omega
    have hpos : (0 : Int) ≤ ((0 + m : Nat) : Int) := by omega
    rw [hfd] at hV
    rw [Nat.zero_add] at hV hneg hpos
    have hkn : knB sts t.n k c.st = decide (s.st = c.st) := by unfold knB; rw [hf]
    rw [hkn] at hv'
    by_cases hst : s.st = c.st
    · rw [decide_eq_true hst] at hv'
      simp (maxSteps := 1000000) (disch := omega) only [push_cast, ↓wc_seq, ↓wc_block, ↓wc_scope, ↓wc_condL, ↓wc_region, ↓wr_cons, ↓wr_consgL, ↓wr_nil, ↓wo_pickL, ↓wo_callf, ↓wc_exit, ↓wc_ret, ↓wc_skip, ↓wc_wl, wo_some, wo_none, wo_ite, opQ_eq, seqQ_normal, seqQ_exit, seqQ_ret, blockQ_normal, blockQ_exit, blockQ_ret, iterQ_normal, iterQ_exit, iterQ_ret, retQ_normal, retQ_ret, retQ_exit, pickC_true, pickC_false, pickO_true, pickO_false, gstep_tt, gstep_ff, gstep_tf, gstep_ft, gstep_skip, int_bne, int_beq, decide_not, Nat.reduceAdd, Nat.reduceMul, Nat.reduceSub, Nat.reducePow, Nat.reduceLT, Nat.reduceLeDiff, Nat.reduceEqDiff, Int.reduceToNat, Int.reduceAdd, Int.reduceSub, Int.reduceNeg, Int.reduceMul, Int.reduceLT, Int.reduceLE, Int.reduceEq, le_max, ↓wo_build, ↓wo_buildSlice, evParts, ↓reduceIte, planIds, hasExt, cntFs, idxFs, clnFs, ovlFs, List.contains_cons, List.contains_nil, List.any_cons, List.any_nil, Nat.reduceBEq, setC, List.length_set, decide_eq_true_eq, decide_eq_false_iff_not, true_implies, false_implies, forall_const, reduceCtorEq, eq_self, Int.natCast_nonneg, Int.toNat_natCast, Int.ofNat_lt, D.int.injEq, Option.some.injEq, Nat.zero_add, Nat.add_zero, bne_iff_ne, bne_eq_false_iff_eq, beq_iff_eq, beq_eq_false_iff_ne, gt_iff_lt, ne_eq, not_true_eq_false, not_false_eq_true, planIds, hasExt, cntFs, idxFs, clnFs, ovlFs, List.contains_cons, List.contains_nil, List.any_cons, List.any_nil, Nat.reduceBEq, Nat.reduceMul, Nat.reduceAdd, ↓reduceIte, TB, hal, h0, h1, h2, h7, h9, h10, h13, h14, h20, h21, h22, h75, h76, h77, hV, hkV, hcV, hneg, hpos, hm', hst, Stt.enc, Cpn.enc, List.getElem?_map, wrap_ok, Int.natCast_add, Int.natCast_one]
      exact ⟨hrV, _, _, rfl, hgV, by rw [hv']; simp [ifF], by omega⟩
    · rw [decide_eq_false hst, Bool.not_false, good] at hv'
      simp (maxSteps := 1000000) (disch := omega) only [push_cast, ↓wc_seq, ↓wc_block, ↓wc_scope, ↓wc_condL, ↓wc_region, ↓wr_cons, ↓wr_consgL, ↓wr_nil, ↓wo_pickL, ↓wo_callf, ↓wc_exit, ↓wc_ret, ↓wc_skip, ↓wc_wl, wo_some, wo_none, wo_ite, opQ_eq, seqQ_normal, seqQ_exit, seqQ_ret, blockQ_normal, blockQ_exit, blockQ_ret, iterQ_normal, iterQ_exit, iterQ_ret, retQ_normal, retQ_ret, retQ_exit, pickC_true, pickC_false, pickO_true, pickO_false, gstep_tt, gstep_ff, gstep_tf, gstep_ft, gstep_skip, int_bne, int_beq, decide_not, Nat.reduceAdd, Nat.reduceMul, Nat.reduceSub, Nat.reducePow, Nat.reduceLT, Nat.reduceLeDiff, Nat.reduceEqDiff, Int.reduceToNat, Int.reduceAdd, Int.reduceSub, Int.reduceNeg, Int.reduceMul, Int.reduceLT, Int.reduceLE, Int.reduceEq, le_max, ↓wo_build, ↓wo_buildSlice, evParts, ↓reduceIte, planIds, hasExt, cntFs, idxFs, clnFs, ovlFs, List.contains_cons, List.contains_nil, List.any_cons, List.any_nil, Nat.reduceBEq, setC, List.length_set, decide_eq_true_eq, decide_eq_false_iff_not, true_implies, false_implies, forall_const, reduceCtorEq, eq_self, Int.natCast_nonneg, Int.toNat_natCast, Int.ofNat_lt, D.int.injEq, Option.some.injEq, Nat.zero_add, Nat.add_zero, bne_iff_ne, bne_eq_false_iff_eq, beq_iff_eq, beq_eq_false_iff_ne, gt_iff_lt, ne_eq, not_true_eq_false, not_false_eq_true, planIds, hasExt, cntFs, idxFs, clnFs, ovlFs, List.contains_cons, List.contains_nil, List.any_cons, List.any_nil, Nat.reduceBEq, Nat.reduceMul, Nat.reduceAdd, ↓reduceIte, TB, hal, h0, h1, h2, h7, h9, h10, h13, h14, h20, h21, h22, h75, h76, h77, hV, hkV, hcV, hneg, hpos, hm', hst, Stt.enc, Cpn.enc, List.getElem?_map, dc, hmx1, hmx2, hW, wrap_ok, Int.natCast_add, Int.natCast_one]
      exact ⟨hrW, _, _, rfl, hgW, hv', by rw [List.length_append]; simp only [List.length_cons, List.length_nil]; omega⟩
end Go.Proofs.YteffefjkcappbaaDoor.Dm
