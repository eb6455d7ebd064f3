/-
  A new waiting list: one request joins, none is served by a nil inventory.
  A new waiting list: no request is served by a nil inventory.
  A waiting list with one request: it joins, and it leaves.
  WaitlistRoom's inventory as plain data: one configuration, one leg, one class.
  StockLimits as plain data: nothing is sold beyond the limits, and what is sold is what was sold less what was cancelled.
  The walks of StockExact, StockResizes and StockLimits: first what they share.
  Plain law: what is sold on a leg stays small for eighty calls.
-/
import Derived.Test.YthkbiiammhekfaaGreatDoorZg
import Derived.Test.YthkbiiammhekfaaGreatDoorWlP
import Derived.Test.YthkbiiammhekfaaGreatDoorSkV
import Derived.Test.YthkbiiammhekfaaGreatDoorWq
set_option linter.unusedSimpArgs false
set_option linter.unusedVariables false
namespace Go.Proofs.YthkbiiammhekfaaGreatDoor.Dm
open Go Gw
set_option linter.unusedSimpArgs false
set_option linter.unusedSimpArgs false

def fId : D := .func 30 [] []
def fOrd : D := .func 31 [] []
def LiAt (S : List Ob) (k : Nat) (items : D) : Prop := S[k]? = some (.row 4 [[items, fId, fOrd, .bool true]])
theorem LiAt.app {S : List Ob} {k : Nat} {d : D} (h : LiAt S k d) (J : List Ob) : LiAt (S ++ J) k d := by
 unfold LiAt at *
 rw [List.getElem?_append_left (lt_of_get h)]; exact h
section
variable {n : Nat} {S : List Ob} {st : Bool}
theorem WNew_c (hn : 1 ≤ n) : ∃ T, callD E (dcall E n) st S 10 [] = some (.loc S.length 0 0, T) ∧ LiAt T S.length .nils ∧ ∃ o, T = S ++ [o] := by
 obtain ⟨m, rfl⟩ : ∃ m, n = m + 1 := ⟨n - 1, by omega⟩
 have : WO (dcall E (m + 1) 10 [] S) fun d T => d = .loc S.length 0 0 ∧ T = S ++ [.row 4 [[.nils, fId, fOrd, .bool true]]] := by
  refine wo_dcall Tryz.func10 rfl (by decide) rfl 13 rfl (fun a hal ha => ?_)
  clear ha
  unfold fId fOrd
  simp (maxSteps := 1000000) (disch := omega) only [push_cast, ↓wc_seq, ↓wc_region, ↓wr_cons, ↓wr_nil, ↓wc_ret, Nat.reduceAdd, Nat.reduceMul, Nat.reduceLT, Nat.reduceLeDiff, Nat.reduceEqDiff, ↓wo_build, ↓reduceIte, Nat.reduceBEq, hal, get_end, set_end, Tryz.f10]
 obtain ⟨d, T, ho, rfl, rfl⟩ := this
 exact ⟨_, (callD_genw rfl).trans ho, get_end, _, rfl⟩
theorem Clone0 {n : Nat} (hn : 1 ≤ n) (st : Bool) (S : List Ob) : callD E (dcall E n) st S 45 [.nils] = some (.nils, S) := by
 obtain ⟨m, rfl⟩ : ∃ m, n = m + 1 := ⟨n - 1, by omega⟩
 have : WO (dcall E (m + 1) 45 [.nils] S) fun d T => d = .nils ∧ T = S := by
  have e0 : dEq Tryz.prog 10000 44 .nils .nils = some true := by rw [show (10000 : Nat) = 9999 + 1 from rfl]; simp only [dEq, Tryz.underlying44]
  refine wo_dcall Tryz.func45 rfl (by decide) rfl 8 rfl (fun a hal ha => ?_)
  have h0 : a[0]? = some (.nils) := ha 0 (by simp)
  clear ha
  simp (maxSteps := 1000000) (disch := omega) only [push_cast, ↓wc_seq, ↓wc_condL, ↓wc_region, ↓wr_cons, ↓wr_nil, ↓wc_ret, Nat.reduceAdd, Nat.reduceMul, Nat.reduceLT, ↓reduceIte, Nat.reduceBEq, reduceCtorEq, hal, h0, e0, Tryz.f45]
 obtain ⟨d, T, ho, rfl, rfl⟩ := this
 have := callD_ext (call := dcall E (m + 1)) (st := st) (J := []) (f := 45) rfl (by rw [List.append_nil]; exact ho)
 rw [List.append_nil] at this
 exact this
theorem IdxW0 {n : Nat} {f : D} (hn : 2 ≤ n) (S : List Ob) : WO (dcall E n 117 [.nils, f] S) fun d T => d = .int .i64 (-1) ∧ T = S := by
 obtain ⟨m, rfl⟩ : ∃ m, n = m + 1 := ⟨n - 1, by omega⟩
 refine wo_dcall Tryz.func117 rfl (by decide) rfl 19 rfl (fun a hal ha => ?_)
 have h0 : a[0]? = some (.nils) := ha 0 (by simp)
 have h1 : a[1]? = some (f) := ha 1 (by simp)
 clear ha
 simp (maxSteps := 1000000) (disch := omega) only [push_cast, ↓wc_seq, ↓wc_block, ↓wc_region, ↓wr_cons, ↓wr_nil, ↓wc_wl, Nat.reduceAdd, Nat.reduceMul, Nat.reduceLT, Int.reduceNeg, ↓reduceIte, Nat.reduceBEq, reduceCtorEq, hal, h0]
 refine wl_loop (fun i a T => T = S ∧ a.length = 19 ∧ a[7]? = some (.int .i64 0) ∧ a[8]? = some (.int .i64 0)) 0 ?_ (by omega) ?_
 ·simp (maxSteps := 1000000) (disch := omega) only [push_cast, Nat.reduceLT, Nat.reduceEqDiff, ↓reduceIte, hal]
 clear hal h0 h1 a
 rintro i a T hi ⟨rfl, hal, h7, h8⟩
 simp (maxSteps := 1000000) (disch := omega) only [push_cast, ↓wc_seq, ↓wc_condL, ↓wc_region, ↓wr_cons, ↓wr_nil, ↓wc_exit, ↓wc_ret, Nat.reduceAdd, Nat.reduceMul, Nat.reduceLT, Int.reduceNeg, ↓reduceIte, Nat.reduceBEq, hal, h7, h8, Int.lt_irrefl, Tryz.f117]
theorem BinN {x : Wt} (hn : 2 ≤ n) : callD E (dcall E n) st S 119 [.nils, .agg x.enc, fOrd] = some (.tup [.int .i64 0, .bool false], S) := by
 obtain ⟨m, rfl⟩ : ∃ m, n = m + 1 := ⟨n - 1, by omega⟩
 have : WO (dcall E (m + 1) 119 [.nils, .agg x.enc, fOrd] []) fun d T => d = .tup [.int .i64 0, .bool false] := by
  refine wo_dcall Tryz.func119 rfl (by decide) rfl 49 rfl (fun a hal ha => ?_)
  have h0 : a[0]? = some (.nils) := ha 0 (by simp)
  have h1 : a[1]? = some (.agg x.enc) := ha 1 (by simp)
  have h2 : a[2]? = some (fOrd) := ha 2 (by simp)
  clear ha
  simp only [Wt.enc] at h1
  simp (maxSteps := 1000000) (disch := omega) only [push_cast, ↓wc_seq, ↓wc_block, ↓wc_region, ↓wr_cons, ↓wr_nil, ↓wc_wl, Nat.reduceAdd, Nat.reduceMul, Nat.reduceLT, Nat.reduceEqDiff, ↓reduceIte, Nat.reduceBEq, reduceCtorEq, hal, h0, h1, List.nil_append]
  refine wl_loop (fun i a T => T = [Ob.row 5 [x.enc]] ∧ a.length = 49 ∧ a[0]? = some (.nils) ∧ a[2]? = some (fOrd) ∧ a[8]? = some (.int .i64 0) ∧ a[9]? = some (.int .i64 0) ∧ a[10]? = some (.int .i64 0)) 0 ?_ (by omega) ?_
  ·simp (maxSteps := 1000000) (disch := omega) only [push_cast, Nat.reduceLT, Nat.reduceEqDiff, ↓reduceIte, reduceCtorEq, hal, h0, h2, Wt.enc]
  clear hal h0 h1 h2 a
  rintro i a T hi ⟨rfl, hal, h0, h2, h8, h9, h10⟩
  simp (maxSteps := 1000000) (disch := omega) only [push_cast, ↓wc_seq, ↓wc_condL, ↓wc_region, ↓wr_cons, ↓wr_consgL, ↓wr_nil, ↓wo_pickL, ↓wc_exit, ↓wc_ret, Nat.reduceAdd, Nat.reduceMul, Nat.reduceLT, Nat.reduceEqDiff, ↓reduceIte, Nat.reduceBEq, hal, h8, h9, h10, Int.lt_irrefl, Tryz.f119]
 obtain ⟨d, T, ho, rfl⟩ := this
 exact callD_pure rfl (by simp [pureL_cons, pureL_nil, D.pure, Wt_pure, fOrd]) ho rfl
namespace Wl
theorem appW {s x : D} {es : List D} (hs : s = .nils ∨ s = .sl 5 [] true) (hx : srcOf S 5 x = some [es]) : dAppend Tryz.prog S 44 44 s x = some (.os S.length 0 1 false, S ++ [.row 5 [es]]) := by
 have hb : 1 * bytesT Tryz.prog 53 ≤ 140737488355328 := Nat.le_trans (Nat.mul_le_mul (Nat.le_refl 1) byW) (by decide)
 rw [Nat.one_mul] at hb
 have hm : (1 ≤ maxLen) = True := le_max (by omega)
 have hz : (D.agg zW).cells.length = 4 + 1 := rfl
 rcases hs with rfl | rfl
 ·simp only [dAppend, elW, show sizeT Tryz.prog 53 = some (4 + 1) from szW, zeW, hz, hx, show srcOf S (4 + 1) .nils = some [] from rfl, List.length_cons, List.length_nil, Nat.zero_add, Nat.one_mul, hm, hb, and_self, Nat.succ_ne_zero, ↓reduceIte]
 ·simp only [dAppend, elW, show sizeT Tryz.prog 53 = some (4 + 1) from szW, zeW, hz, hx, show srcOf S (4 + 1) (.sl 5 [] true) = some [] from rfl, List.length_cons, List.length_nil, Nat.zero_add, Nat.one_mul, hm, hb, and_self, Nat.succ_ne_zero, ↓reduceIte, List.nil_append]
theorem Insert_nil {m : Nat} {x : List D} {b : Bool} : WO (dcall E0 (m + 1) 120 [.nils, .int .i64 0, .sl 5 [x] b] S) fun d T => d = .os S.length 0 1 false ∧ T = S ++ [.row 5 [x]] := by
 refine wo_dcall Tryz.func120 rfl (by decide) rfl 95 rfl (fun a hal ha => ?_)
 have h0 : a[0]? = some (.nils) := ha 0 (by simp)
 have h1 : a[1]? = some (.int .i64 0) := ha 1 (by simp)
 have h2 : a[2]? = some (.sl 5 [x] b) := ha 2 (by simp)
 clear ha
 have ha := appW (S := S) (s := .nils) (x := .sl 5 [x] b) (.inl rfl) rfl
 simp (maxSteps := 1000000) (disch := omega) only [push_cast, ↓wc_seq, ↓wc_condL, ↓wc_region, ↓wr_cons, ↓wr_nil, ↓wc_ret, ↓wc_skip, Nat.reduceAdd, Nat.reduceMul, Nat.reduceLT, Nat.reduceLeDiff, Nat.reduceEqDiff, Int.reduceAdd, Int.reduceLE, Int.reduceEq, ↓reduceIte, Nat.reduceBEq, reduceCtorEq, hal, h0, h1, h2, ha, Tryz.f120]
end Wl
theorem Insert_c {n : Nat} {st : Bool} {x : List D} {b : Bool} (hn : 1 ≤ n) : callD E (dcall E n) st S 120 [.nils, .int .i64 0, .sl 5 [x] b] = some (.os S.length 0 1 false, S ++ [.row 5 [x]]) := by
 obtain ⟨m, rfl⟩ : ∃ m, n = m + 1 := ⟨n - 1, by omega⟩
 obtain ⟨d, T, ho, rfl, rfl⟩ := Wl.Insert_nil (m := 99) (S := S) (x := x) (b := b)
 have e1 : E.prim 120 = some Wl.insP := rfl
 have e2 : dcall E (m + 1) 120 [.nils, .int .i64 0, .sl 5 [x] b] S = Wl.insP [.nils, .int .i64 0, .sl 5 [x] b] S := by simp only [dcall, e1, show E.mode 120 = .gen from rfl, reduceCtorEq, ↓reduceIte]
 rw [callD_genw rfl, e2]
 unfold Wl.insP
 have e3 : Wl.insQ [.nils, .int .i64 0, .sl 5 [x] b] S = none := rfl
 rw [e3]
 exact ho
def OneAt (S : List Ob) (k : Nat) (x : Wt) : Prop := ∃ q, LiAt S k (.os q 0 1 false) ∧ S[q]? = some (.row 5 [x.enc])
theorem OneAt.app {k : Nat} {x : Wt} (h : OneAt S k x) (J : List Ob) : OneAt (S ++ J) k x := by
 obtain ⟨q, h1, h2⟩ := h
 exact ⟨q, h1.app J, by rw [List.getElem?_append_left (lt_of_get h2)]; exact h2⟩
theorem elL : elemT Tryz.prog 38 = some 50 := by kernel_rfl
theorem szL : sizeT Tryz.prog 50 = some (3 + 1) := by kernel_rfl
theorem zeL : zeroT Tryz.prog 50 = some (.agg [.str (ByteArray.mk #[]), .int .i64 0, .int .i64 0, .str (ByteArray.mk #[])]) := by kernel_rfl
theorem byL : bytesT Tryz.prog 50 ≤ 100000 := of_decide_eq_true (by kernel_rfl)
theorem appL {es : List (List D)} {b : Bool} (h0 : es ≠ []) (hl : es.length ≤ 100) : dAppend Tryz.prog S 38 38 (.sl 4 [] true) (.sl 4 es b) = some (.os S.length 0 es.length false, S ++ [.row 4 es]) := by
 have hb : es.length * bytesT Tryz.prog 50 ≤ 140737488355328 := Nat.le_trans (Nat.mul_le_mul hl byL) (by decide)
 have hm : (es.length ≤ maxLen) = True := le_max (by omega)
 have hn : es.length ≠ 0 := fun h => h0 (List.length_eq_zero_iff.1 h)
 have hz : (D.agg [.str (ByteArray.mk #[]), .int .i64 0, .int .i64 0, .str (ByteArray.mk #[])]).cells.length = 3 + 1 := rfl
 simp only [dAppend, elL, szL, zeL, hz, show srcOf S (3 + 1) (.sl 4 [] true) = some [] from rfl, show srcOf S (3 + 1) (.sl 4 es b) = some es from rfl, List.length_nil, Nat.zero_add, hm, hb, hn, and_self, ↓reduceIte, List.nil_append]
theorem CloneL {l : List Lid} {lx : Bool} (hn : 1 ≤ n) (hl : l ≠ []) (h6 : l.length ≤ 6) : callD E (dcall E n) st S 72 [.sl 4 (l.map Lid.enc) lx] = some (.sl 4 (l.map Lid.enc) false, S) := by
 obtain ⟨m, rfl⟩ : ∃ m, n = m + 1 := ⟨n - 1, by omega⟩
 have e0 : dEq Tryz.prog 10000 38 (.sl 4 (l.map Lid.enc) lx) .nils = some false := by
  cases l with
  | nil => exact (hl rfl).elim
  | cons w ws => rw [show (10000 : Nat) = 9999 + 1 from rfl]; simp only [dEq, Tryz.underlying38, List.map_cons]
 have hne : l.map Lid.enc ≠ [] := fun h => hl (List.map_eq_nil_iff.1 h)
 have ha := fun S b => appL (S := S) (b := b) hne (by rw [List.length_map]; omega)
 have : WO (dcall E (m + 1) 72 [.sl 4 (l.map Lid.enc) lx] []) fun d T => d = .os 0 0 (l.map Lid.enc).length false ∧ T = [.row 4 (l.map Lid.enc)] := by
  refine wo_dcall Tryz.func72 rfl (by decide) rfl 8 rfl (fun a hal ha => ?_)
  have h0 : a[0]? = some (.sl 4 (l.map Lid.enc) lx) := ha 0 (by simp)
  clear ha
  generalize l.map Lid.enc = es at *
  simp (maxSteps := 1000000) (disch := omega) only [push_cast, ↓wc_seq, ↓wc_condL, ↓wc_region, ↓wr_cons, ↓wr_nil, ↓wc_ret, ↓wc_skip, Nat.reduceAdd, Nat.reduceMul, Nat.reducePow, Nat.reduceLT, Nat.reduceLeDiff, Nat.reduceEqDiff, ↓wo_buildSlice, ↓reduceIte, Nat.reduceBEq, reduceCtorEq, hal, h0, e0, ha, List.nil_append, Tryz.f72]
 obtain ⟨d, T, ho, rfl, rfl⟩ := this
 have hf := freeze_os (n := 38) (T := [Ob.row 4 (l.map Lid.enc)]) (k := 0) (x := false) rfl (Lids_pure l)
 exact callD_pure rfl (by simp [pureL_cons, pureL_nil, D.pure, Lids_pure]) ho hf
end
end Go.Proofs.YthkbiiammhekfaaGreatDoor.Dm
namespace Go.Proofs.YthkbiiammhekfaaGreatDoor.Dm
open Go Gw
set_option linter.unusedSimpArgs false
set_option linter.unusedSimpArgs false

section
variable {n : Nat} {S : List Ob} {st : Bool}
/-! ### Next and Clear at a list without requests -/
/-! ### One request that is not served -/
end
end Go.Proofs.YthkbiiammhekfaaGreatDoor.Dm
namespace Go.Proofs.YthkbiiammhekfaaGreatDoor.Dm
open Go Gw
set_option linter.unusedSimpArgs false
set_option linter.unusedSimpArgs false

theorem get_psh {T : List Ob} {k : Nat} {o : Ob} (h : T[k]? = some o) (J : List Ob) : (T ++ J)[k]? = some o := by
 rw [List.getElem?_append_left (lt_of_get h)]; exact h
def ButAt (k : Nat) (S T : List Ob) : Prop := S.length ≤ T.length ∧ ∀ j, j < S.length → j ≠ k → T[j]? = S[j]?
theorem ButAt.refl {k : Nat} {S : List Ob} : ButAt k S S := ⟨Nat.le_refl _, fun _ _ _ => rfl⟩
theorem ButAt.trans {k : Nat} {S T U : List Ob} (h : ButAt k S T) (g : ButAt k T U) : ButAt k S U :=
 ⟨Nat.le_trans h.1 g.1, fun j hj hk => (g.2 j (Nat.lt_of_lt_of_le hj h.1) hk).trans (h.2 j hj hk)⟩
theorem ButAt.push {k : Nat} {S : List Ob} (J : List Ob) : ButAt k S (S ++ J) :=
 ⟨by simp, fun j hj _ => List.getElem?_append_left hj⟩
theorem ButAt.set {k : Nat} {S : List Ob} (o : Ob) : ButAt k S (S.set k o) :=
 ⟨by simp, fun j _ hk => List.getElem?_set_ne (Ne.symm hk)⟩
theorem ButAt.setn {k m : Nat} {S T : List Ob} (h : ButAt k S T) (o : Ob) (hm : S.length ≤ m) : ButAt k S (T.set m o) :=
 ⟨by rw [List.length_set]; exact h.1, fun j hj hk => by rw [List.getElem?_set_ne (by omega)]; exact h.2 j hj hk⟩
section
variable {n : Nat} {S : List Ob} {st : Bool}
theorem OneAt.get {k : Nat} {x : Wt} (h : OneAt S k x) : ∃ q, q ≠ k ∧ LiAt S k (.os q 0 1 false) ∧ S[q]? = some (.row 5 [x.enc]) := by
 obtain ⟨q, h1, h2⟩ := h
 refine ⟨q, ?_, h1, h2⟩
 rintro rfl
 unfold LiAt at h1
 rw [h1] at h2
 simp at h2
def OneN (S T : List Ob) (k : Nat) (x : Wt) : Prop := ∃ q, S.length ≤ q ∧ LiAt T k (.os q 0 1 false) ∧ T[q]? = some (.row 5 [x.enc])
/-! ### Leaving -/
theorem NewId_c {x : Wt} (hn : 1 ≤ n) : callD E (dcall E n) st S 30 [.agg x.enc] = some (.int .i64 x.id, S) := by
 obtain ⟨m, rfl⟩ : ∃ m, n = m + 1 := ⟨n - 1, by omega⟩
 have : WO (dcall E (m + 1) 30 [.agg x.enc] []) fun d T => d = .int .i64 x.id := by
  refine wo_dcall Tryz.func30 rfl (by decide) rfl 5 rfl (fun a hal ha => ?_)
  have h0 : a[0]? = some (.agg x.enc) := ha 0 (by simp)
  clear ha
  simp only [Wt.enc] at h0
  simp (maxSteps := 1000000) (disch := omega) only [push_cast, ↓wc_seq, ↓wc_region, ↓wr_cons, ↓wr_nil, ↓wc_ret, Nat.reduceAdd, Nat.reduceMul, Nat.reduceLT, Nat.reduceEqDiff, ↓reduceIte, Nat.reduceBEq, hal, h0, List.nil_append, Tryz.f30]
 obtain ⟨d, T, ho, rfl⟩ := this
 exact callD_pure rfl (by simp [pureL_cons, pureL_nil, D.pure, Wt_pure]) ho rfl
theorem callV_pure {call : Call} {dr : Bool} {S : List Ob} {g : FuncId} {x y l : List D} (hm : E.mode g = .pure) : callV E call dr S (.func g x y) l = callD E call dr S g (x ++ l ++ y) := by
 simp [callV, hm]
def GoneAt (S : List Ob) (k : Nat) : Prop := ∃ r es, LiAt S k (.os r 0 0 false) ∧ S[r]? = some (.row 5 es)
end
end Go.Proofs.YthkbiiammhekfaaGreatDoor.Dm
namespace Go.Proofs.YthkbiiammhekfaaGreatDoor.Dm
open Go Gw
set_option linter.unusedSimpArgs false

def yS : ByteArray := ByteArray.mk #[89]
def eqpR : ByteArray := ByteArray.mk #[51, 50, 48]
def legR : Lid := ⟨ByteArray.mk #[66, 65], 1, 9497, ByteArray.mk #[76, 72, 82]⟩
def cfgR (c : Int) : Cfg := ⟨eqpR, [⟨yS, c, 0, [⟨yS, 0⟩], true⟩], true⟩
def stR (c k : Int) : Stk := ⟨[cfgR c], true, [(legR, ⟨cfgR c, false, [[k]]⟩)]⟩
end Go.Proofs.YthkbiiammhekfaaGreatDoor.Dm
namespace Go.Proofs.YthkbiiammhekfaaGreatDoor.Dm
open Go Gw
set_option linter.unusedSimpArgs false

def InLim (x : Leg) : Prop := ∀ (i : Nat) (y : Cab) (r : List Int), x.cfg.cabs[i]? = some y → x.sold[i]? = some r → ∀ j, j < r.length → 0 ≤ spF y r j
def totF (s : Stk) (id : Lid) : Int := match s.get id with
 | none => 0
 | some x => tot x
def LimOk (s : Stk) : Prop := ∀ id x, s.get id = some x → InLim x
theorem addL_lim {l : List Cfg} {B : Int} {x : Leg} (ok : LegOk l B x) (h : InLim x) {cl : ByteArray} {w : Int} (hw : w ≤ 0 ∨ w ≤ leftF x cl) : InLim (addL cl w x) := by
 unfold addL
 rcases hp : placeF cl 0 x.cfg.cabs with _ | ⟨a, b⟩
 ·exact h
 obtain ⟨y, r, z, v, e1, e2, e3, e4, e5, e6, e7⟩ := ok.at_ hp
 have hb : b < r.length := lt_of_get e5
 intro i y' r' hy hr j hj
 dsimp only at hy hr
 unfold addAt at hr
 obtain ⟨r0, hr0, rfl⟩ := modify_get hr
 by_cases e : a = i
 ·subst e
  rw [e1] at hy
  cases hy
  rw [e2] at hr0
  cases hr0
  rw [if_pos rfl] at hj ⊢
  rw [List.length_modify] at hj
  rw [spF_add y r b w j hb]
  have h0 := h a y r e1 e2 j hj
  by_cases hjb : j ≤ b
  ·rw [if_pos hjb]
   rcases hw with hw | hw
   ·omega
   ·have hl : leftF x cl = max 0 (avF y r b) := by
     unfold leftF
     rw [hp]
     dsimp only
     rw [e1, e2]
    have := avF_le (y := y) (r := r) hjb
    omega
  ·rw [if_neg hjb]; omega
 ·rw [if_neg e] at hj ⊢
  exact h i y' r0 hy hr0 j hj
theorem sell_inv {s : Stk} {ids : List Lid} {cl : ByteArray} {w : Int} (h : (s.sell ids cl w).1 = 0) : (s.sell ids cl w).2 = { s with legs := addIds cl w ids s.legs } ∧ s.named ids cl w true = 0 ∧ ∀ id ∈ ids, ∀ x, s.get id = some x → w ≤ leftF x cl := by
 unfold Stk.sell at h ⊢
 split at h
 ·rename_i h1; exact absurd h h1
 ·rename_i h1
  rw [if_neg h1]
  split at h
  ·simp at h
  ·rename_i h2
   rw [if_neg h2]
   refine ⟨rfl, Classical.not_not.1 h1, fun id hid x hx => ?_⟩
   rw [Bool.not_eq_true, List.any_eq_false] at h2
   have := h2 id hid
   rw [hx] at this
   simp at this
   exact this
theorem cancel_inv {s : Stk} {ids : List Lid} {cl : ByteArray} {w : Int} (h : (s.cancel ids cl w).1 = 0) : (s.cancel ids cl w).2 = { s with legs := addIds cl (-w) ids s.legs } ∧ s.named ids cl w false = 0 := by
 unfold Stk.cancel at h ⊢
 split at h
 ·rename_i h1; exact absurd h h1
 ·rename_i h1
  rw [if_neg h1]
  split at h
  ·simp at h
  ·rename_i h2
   rw [if_neg h2]
   exact ⟨rfl, Classical.not_not.1 h1⟩
theorem cancel_err {s : Stk} {ids : List Lid} {cl : ByteArray} {w : Int} (h : (s.cancel ids cl w).1 ≠ 0) : (s.cancel ids cl w).2 = s := by
 unfold Stk.cancel at h ⊢
 split at h
 ·rename_i h1; rw [if_pos h1]
 ·rename_i h1
  rw [if_neg h1]
  split at h
  ·rename_i h2; rw [if_pos h2]
  ·simp at h
theorem add_lim {B : Int} {s : Stk} (ok : StkOk B s) (h : LimOk s) {ids : List Lid} (hnd : ids.Nodup) {cl : ByteArray} {w : Int} (hw : w ≤ 0 ∨ ∀ id ∈ ids, ∀ x, s.get id = some x → w ≤ leftF x cl) : LimOk { s with legs := addIds cl w ids s.legs } := by
 intro id x hx
 have hx : getL (addIds cl w ids s.legs) id = some x := hx
 rw [getL_addIds cl w id ids s.legs hnd] at hx
 by_cases e : id ∈ ids
 ·rw [if_pos e] at hx
  obtain ⟨x0, h0, rfl⟩ := Option.map_eq_some_iff.1 hx
  refine addL_lim (ok.get h0) (h id x0 h0) ?_
  rcases hw with hw | hw
  ·exact .inl hw
  ·exact .inr (hw id e x0 h0)
 ·rw [if_neg e] at hx
  exact h id x hx
theorem emptyF_lim {l : List Cfg} (hl : CfgsOk l) {c : Cfg} (hc : c ∈ l) : InLim ⟨c, false, emptyF c⟩ := by
 intro i y r hy hr j hj
 dsimp only at hy hr
 unfold emptyF at hr
 rw [List.getElem?_map, hy] at hr
 have hr : List.replicate y.cls.length (0 : Int) = r := by simpa using hr
 subst hr
 have hyo := (hl.cfg c hc).cab y (List.mem_of_getElem? hy)
 have := limF_pos hyo j
 unfold spF
 rw [List.drop_replicate, sum_rep]
 omega
theorem emptyF_tot (c : Cfg) : tot ⟨c, false, emptyF c⟩ = 0 := sum_emptyF c.cabs
theorem open_lim {B : Int} {s : Stk} (ok : StkOk B s) (h : LimOk s) (id : Lid) (e : ByteArray) : LimOk (s.open id e).2 ∧ ∀ id', totF (s.open id e).2 id' = totF s id' := by
 unfold Stk.open
 split
 ·exact ⟨h, fun _ => rfl⟩
 ·rename_i h1
  split
  ·exact ⟨h, fun _ => rfl⟩
  ·rename_i c hc
   have hcm := (findF_mem hc).1
   have hn : getL s.legs id = none := by
    have : (s.get id).isSome = false := by simpa using h1
    rcases e : s.get id with _ | y
    ·exact e
    ·rw [e] at this; cases this
   have hg : ∀ id', getL (s.legs ++ [(id, (⟨c, false, emptyF c⟩ : Leg))]) id' = (getL s.legs id').or (if id = id' then some ⟨c, false, emptyF c⟩ else none) := fun id' => getL_app _ _ _ _
   refine ⟨fun id' x hx => ?_, fun id' => ?_⟩
   ·have hx : getL (s.legs ++ [(id, (⟨c, false, emptyF c⟩ : Leg))]) id' = some x := hx
    rw [hg] at hx
    rcases e' : getL s.legs id' with _ | x0
    ·rw [e'] at hx
     by_cases ee : id = id'
     ·rw [if_pos ee] at hx
      cases hx
      exact emptyF_lim ok.cfgs hcm
     ·rw [if_neg ee] at hx; cases hx
    ·rw [e'] at hx
     cases hx
     exact h id' _ e'
   ·unfold totF
    show (match getL (s.legs ++ [(id, (⟨c, false, emptyF c⟩ : Leg))]) id' with | none => 0 | some x => tot x) = (match getL s.legs id' with | none => 0 | some x => tot x)
    rw [hg]
    generalize getL s.legs id' = q
    rcases q with _ | x0
    ·by_cases ee : id = id'
     ·rw [if_pos ee]; exact emptyF_tot c
     ·rw [if_neg ee]; rfl
    ·rfl
/-! ### What is wanted -/
def byF (a : Cal) : Int := if a.kind % 7 = 5 then -a.n else a.n
def addW (ws : List Int) (k : Nat) (b : Int) : List Int := ws.set k (ws.getD k 0 + b)
def wantS (ws : List Int) (a : Cal) : List Int := if a.more % 4 = 0 then addW (addW ws (a.leg % 6) (byF a)) (a.more / 4 % 6) (byF a) else addW ws (a.leg % 6) (byF a)
def limS (p : Stk × List Int) (a : Cal) : Stk × List Int :=
 if a.kind % 7 = 6 then p else if (doF p.1 a).1 ≠ 0 ∨ a.kind % 7 < 2 then ((doF p.1 a).2, p.2) else ((doF p.1 a).2, wantS p.2 a)
structure LimInv (B : Int) (p : Stk × List Int) : Prop where
 ok : StkOk B p.1
 lim : LimOk p.1
 len : p.2.length = 6
 want : ∀ k v, p.2[k]? = some v → v = totF p.1 (idF k)
def limF6 (l : List Cfg) (x : Bool) (acts : List Cal) : Stk × List Int := acts.foldl limS (⟨l, x, []⟩, List.replicate 6 0)
set_option linter.unusedSimpArgs false

section
variable {S : List Ob} {lab : Lab} {o k m n : Nat} {s : Stk} {ps : List (D × D)} {id : Lid}
def soldV (s : Stk) (id : Lid) : List Int := (s.counts id).map (·.2)
end
/-! ### Resize as plain data -/
/-! ### StockExact -/
end Go.Proofs.YthkbiiammhekfaaGreatDoor.Dm
namespace Go.Proofs.YthkbiiammhekfaaGreatDoor.Dm
open Go Gw
set_option linter.unusedSimpArgs false

theorem sum_le_mul {M : Int} : ∀ {l : List Int}, (∀ v ∈ l, v ≤ M) → l.sum ≤ M * l.length
 | [], _ => by simp
 | v :: l, h => by
  have h1 := h v (by simp)
  have h2 := sum_le_mul (l := l) (fun w hw => h w (by simp [hw]))
  rw [List.sum_cons, List.length_cons, Int.natCast_add, Int.natCast_one, Int.mul_add, Int.mul_one]
  omega
theorem lim_tot {l : List Cfg} {B : Int} {x : Leg} (ok : LegOk l B x) (h : InLim x) : tot x ≤ 7992 := by
 have h4 := ok.cfg.l2
 have hl := ok.len
 have hs : ∀ v ∈ x.sold.map List.sum, v ≤ 1998 := fun v hv => by
  obtain ⟨r, hr, rfl⟩ := List.mem_map.1 hv
  obtain ⟨i, hi⟩ := List.mem_iff_getElem?.1 hr
  have hil := lt_of_get hi
  have hy : x.cfg.cabs[i]? = some (x.cfg.cabs[i]'(by omega)) := List.getElem?_eq_getElem (by omega)
  have hyo := ok.cfg.cab _ (List.mem_of_getElem? hy)
  cases r with
  | nil => simp
  | cons v r =>
   have h0 := h i _ _ hy hi 0 (by simp)
   unfold spF at h0
   rw [List.drop_zero] at h0
   have h1 := limF_le hyo 0
   have h2 := aut_le hyo
   omega
 have := sum_le_mul hs
 unfold tot
 rw [List.length_map] at this
 have hn : (x.sold.length : Int) ≤ 4 := by omega
 omega
def Fit (c : Nat) (x : Leg) : Prop := (InLim x ∧ tot x ≤ 127 * ((c : Int) - 1)) ∨ tot x ≤ 127 * ((c : Int) - 2)
theorem Fit.mono {c : Nat} {x : Leg} (h : Fit c x) : Fit (c + 1) x := by
 rcases h with ⟨h1, h2⟩ | h
 ·exact .inl ⟨h1, by rw [Int.natCast_add]; omega⟩
 ·exact .inr (by rw [Int.natCast_add]; omega)
structure Ok80 (c : Nat) (s : Stk) : Prop where
 ok : StkOk 9999 s
 fit : ∀ id x, s.get id = some x → Fit c x
end Go.Proofs.YthkbiiammhekfaaGreatDoor.Dm
