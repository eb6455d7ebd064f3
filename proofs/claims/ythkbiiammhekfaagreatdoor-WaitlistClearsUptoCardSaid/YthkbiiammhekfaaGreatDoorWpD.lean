/-
  The reference's waiting list: what is asked of requests, and what is shown of them.
-/
import Derived.Test.YthkbiiammhekfaaGreatDoorWpB
set_option linter.unusedSimpArgs false
set_option linter.unusedVariables false
namespace Go.Proofs.YthkbiiammhekfaaGreatDoor.Dm
open Go Gw
set_option linter.unusedSimpArgs false
set_option linter.unusedSimpArgs false
namespace Wl

/-! ### Appends of any lists -/
section
variable {α : Type} {enc : α → List D} {S : List Ob} {d x : D} {l g : List α}
theorem app_gs {t e : TypeId} {z : D} {n : Nat} (h1 : elemT Tryz.prog t = some e) (h2 : sizeT Tryz.prog e = some (n + 1)) (h3 : zeroT Tryz.prog e = some z) (h4 : z.cells.length = n + 1) (h5 : bytesT Tryz.prog e ≤ 100000) (h : GL (n + 1) enc S d l) (hx : srcOf S (n + 1) x = some (g.map enc)) (hl : l.length + g.length ≤ 100000) :
  ∃ d' S', dAppend Tryz.prog S t t d x = some (d', S') ∧ GL (n + 1) enc S' d' (l ++ g) ∧ S.length ≤ S'.length ∧ (∀ k o, (∀ n, d = .os k 0 n false → False) → S[k]? = some o → S'[k]? = some o) ∧ (∀ q m y, d' = .os q 0 m y → S.length ≤ q ∨ d' = d) := by
 have hold : srcOf S (n + 1) d = some (l.map enc) := by
  rcases h with ⟨rfl, rfl⟩ | ⟨k, rfl, hk⟩
  ·rfl
  ·have : (List.map enc l).take l.length = List.map enc l := List.take_of_length_le (by simp)
   simp [srcOf, hk, this]
 by_cases hg : g = []
 ·subst hg
  refine ⟨d, S, ?_, by rw [List.append_nil]; exact h, Nat.le_refl _, fun _ _ _ h => h, fun _ _ _ _ => .inr rfl⟩
  simp only [dAppend, h1, h2, h3, h4, hold, hx, List.map_nil, List.length_nil, ↓reduceIte]
 ·have hgl : ¬ (g.map enc).length = 0 := by
   rw [List.length_map]
   exact fun e => hg (List.eq_nil_of_length_eq_zero e)
  have hm : (l.map enc).length + (g.map enc).length ≤ maxLen ∧ ((l.map enc).length + (g.map enc).length) * bytesT Tryz.prog e ≤ 140737488355328 := by
   simp only [List.length_map]
   exact ⟨by unfold maxLen; omega, Nat.le_trans (Nat.mul_le_mul hl h5) (by decide)⟩
  rcases h with ⟨rfl, rfl⟩ | ⟨k, rfl, hk⟩
  ·refine ⟨.os S.length 0 (g.map enc).length false, S ++ [.row (n + 1) (g.map enc)], ?_, .inr ⟨S.length, by simp, get_end⟩, by simp, fun _ _ _ h => get_old h, fun q m y e => .inl (by cases e; exact Nat.le_refl _)⟩
   simp only [dAppend, h1, h2, h3, h4, hold, hx, if_neg hgl, if_pos hm, ↓reduceIte]
  ·have hkl : l.length = (l.map enc).length := by simp
   refine ⟨.os S.length 0 (l.length + (g.map enc).length) false, S.set k .dead ++ [.row (n + 1) ((l ++ g).map enc)], ?_, .inr ⟨S.length, by simp, get_end'⟩, by simp, fun k' o hd h => ?_, fun q m y e => .inl (by cases e; exact Nat.le_refl _)⟩
   ·simp only [dAppend, h1, h2, h3, h4, hold, hx, if_neg hgl, if_pos hm, hk, if_pos hkl, List.map_append, ↓reduceIte]
   ·refine get_old ?_
    rw [List.getElem?_set_ne (fun e => by subst e; exact hd _ rfl)]
    exact h
end
theorem elR : elemT Tryz.prog 46 = some 40 := by kernel_rfl
theorem szR : sizeT Tryz.prog 40 = some (4 + 1) := by kernel_rfl
theorem zeR : zeroT Tryz.prog 40 = some (.agg zW) := by kernel_rfl
theorem byR : bytesT Tryz.prog 40 ≤ 100000 := of_decide_eq_true (by kernel_rfl)
def RLi (S : List Ob) (lab : Lab) (k : Nat) (l : List Wt) : Prop := ∃ d, S[k]? = some (.row 1 [[d]]) ∧ GL 5 Wt.enc S d l ∧ lab k = [4] ∧ ∀ q n x, d = .os q 0 n x → lab q = [4]
section
variable {S T : List Ob} {lab lab' : Lab} {k : Nat} {l : List Wt}
theorem RLi.keep (h : RLi S lab k l) (g : KeepO 4 S lab T lab') : RLi T lab' k l := by
 obtain ⟨d, h1, h2, h3, h4⟩ := h
 obtain ⟨u1, u2⟩ := g k _ _ h1 h3
 refine ⟨d, u1, ?_, u2, fun q n x e => ?_⟩
 ·rcases h2 with h2 | ⟨q, e1, e2⟩
  ·exact .inl h2
  ·exact .inr ⟨q, e1, (g q _ _ e2 (h4 _ _ _ e1)).1⟩
 ·rcases h2 with ⟨h2, -⟩ | ⟨q', e1, e2⟩
  ·rw [h2] at e; cases e
  ·rw [e1] at e
   cases e
   exact (g q _ _ e2 (h4 _ _ _ e1)).2
theorem RLi.push (h : RLi S lab k l) (J : List Ob) : RLi (S ++ J) lab k l := h.keep KeepO.push
theorem RLi.lt (h : RLi S lab k l) : k < S.length := by
 obtain ⟨d, h1, -⟩ := h
 exact lt_of_get h1
end
section
variable {n : Nat} {S : List Ob} {st : Bool} {lab : Lab} {k p : Nat} {l : List Wt} {s : Stk}
theorem RNewP (hn : 1 ≤ n) (hf : FreshL S lab) : ∃ T lab', (∀ st, callD E (dcall E n) st S 11 [] = some (.loc S.length 0 0, T)) ∧ RLi T lab' S.length [] ∧ Step 4 S lab T lab' := by
 obtain ⟨m, rfl⟩ : ∃ m, n = m + 1 := ⟨n - 1, by omega⟩
 have : WO (dcall E (m + 1) 11 [] S) fun d T => d = .loc S.length 0 0 ∧ T = S ++ [.row 1 [[.nils]]] := by
  refine wo_dcall Tryz.func11 rfl (by decide) rfl 3 rfl (fun a hal ha => ?_)
  clear ha
  simp (maxSteps := 1000000) (disch := omega) only [push_cast, ↓wc_seq, ↓wc_region, ↓wr_cons, ↓wr_nil, ↓wc_ret, Nat.reduceAdd, Nat.reduceMul, Nat.reduceLT, ↓wo_build, ↓reduceIte, Nat.reduceBEq, hal, Tryz.f11]
 obtain ⟨d, T, ho, rfl, rfl⟩ := this
 exact ⟨_, setL lab S.length [4], fun st => (callD_genw rfl).trans ho, ⟨_, get_end, GL.nil, setL_self, fun q n x e => by cases e⟩, Step.add hf _ _⟩
set_option maxHeartbeats 4000000 in
theorem Twice_c {l : List Lid} {lx : Bool} (hn : 120 ≤ n) (hl : l.length ≤ 100) (st : Bool) (S : List Ob) : callD E (dcall E n) st S 78 [.sl 4 (l.map Lid.enc) lx] = some (.bool (!decide l.Nodup), S) := by
 obtain ⟨m, rfl⟩ : ∃ m, n = m + 1 := ⟨n - 1, by omega⟩
 have : WO (dcall E (m + 1) 78 [.sl 4 (l.map Lid.enc) lx] []) fun d T => d = .bool (!decide l.Nodup) := by
  refine wo_dcall Tryz.func78 rfl (by decide) rfl 25 rfl (fun a hal ha => ?_)
  have h0 : a[0]? = some (.sl 4 (l.map Lid.enc) lx) := ha 0 (by simp)
  clear ha
  have hpl := plain_lid
  simp (maxSteps := 1000000) (disch := omega) only [push_cast, ↓wc_seq, ↓wc_block, ↓wc_region, ↓wr_cons, ↓wr_nil, ↓wc_wl, Nat.reduceAdd, Nat.reduceMul, ↓reduceIte, Nat.reduceBEq]
  refine wl_loop (fun i a T => (l.take i).Nodup ∧ a.length = 25 ∧ a[0]? = some (.sl 4 (l.map Lid.enc) lx) ∧ a[3]? = some (.int .i64 i)) l.length ?_ (by omega) ?_
  ·simp (maxSteps := 1000000) (disch := omega) only [push_cast, Nat.reduceLT, ↓reduceIte, reduceCtorEq, hal, h0, Int.natCast_zero]
   simp
  clear hal h0 a
  rintro i a T hi ⟨hnd, hal, h0, h3⟩
  rcases Nat.lt_or_eq_of_le hi with hlt | rfl
  case inr =>
   rw [List.take_length] at hnd
   rw [decide_eq_true hnd]
   simp (maxSteps := 1000000) (disch := omega) only [push_cast, ↓wc_seq, ↓wc_condL, ↓wc_region, ↓wr_cons, ↓wr_nil, ↓wc_exit, ↓wc_ret, Nat.reduceAdd, Nat.reduceMul, Nat.reduceLT, Nat.reduceEqDiff, ↓reduceIte, Nat.reduceBEq, reduceCtorEq, hal, h0, h3, Nat.lt_irrefl, Bool.not_true, Tryz.f78]
  obtain ⟨w, hq⟩ : ∃ w, l[i]? = some w := ⟨l[i], by simp⟩
  simp (maxSteps := 1000000) (disch := omega) only [push_cast, ↓wc_seq, ↓wc_block, ↓wc_condL, ↓wc_region, ↓wr_cons, ↓wr_nil, ↓wc_skip, ↓wc_wl, Nat.reduceAdd, Nat.reduceMul, Nat.reduceLT, Nat.reduceEqDiff, ↓reduceIte, Nat.reduceBEq, reduceCtorEq, hal, h0, h3, hlt]
  refine wl_loop (fun j a T => (∀ j' w', j' < j → l[j']? = some w' → w' ≠ w) ∧ a.length = 25 ∧ a[0]? = some (.sl 4 (l.map Lid.enc) lx) ∧ a[3]? = some (.int .i64 i) ∧ a[4]? = some (.int .i64 j)) i ?_ (by omega) ?_
  ·simp (maxSteps := 1000000) (disch := omega) only [push_cast, Nat.reduceLT, Nat.reduceEqDiff, ↓reduceIte, reduceCtorEq, ne_eq, hal, h0, h3, Int.natCast_zero]
   exact fun j' w' h => by omega
  clear hal h0 h3 a
  rintro j a T hj ⟨hne, hal, h0, h3, h4⟩
  rcases Nat.lt_or_eq_of_le hj with hjl | rfl
  ·have hjl' : j < l.length := by omega
   obtain ⟨v, hv⟩ : ∃ v, l[j]? = some v := ⟨l[j], by simp⟩
   have he := eq_lid v w
   by_cases hvw : v = w
   ·have hdup : ¬ l.Nodup := fun h => by
     have := (List.getElem?_inj hjl' h).1 (hv.trans (hvw ▸ hq.symm))
     omega
    rw [decide_eq_false hdup]
    rw [decide_eq_true hvw] at he
    simp only [Lid.enc] at he
    simp (maxSteps := 1000000) (disch := omega) only [push_cast, ↓wc_seq, ↓wc_block, ↓wc_condL, ↓wc_region, ↓wr_cons, ↓wr_nil, ↓wc_ret, ↓wc_skip, Nat.reduceAdd, Nat.reduceMul, Nat.reduceLT, Nat.reduceLeDiff, Nat.reduceEqDiff, ↓reduceIte, Nat.reduceBEq, reduceCtorEq, ne_eq, hal, h0, h3, h4, hjl, hv, hq, hpl, he, Lid.enc, Bool.not_false, Tryz.f78]
   ·rw [decide_eq_false hvw] at he
    simp only [Lid.enc] at he
    simp (maxSteps := 1000000) (disch := omega) only [push_cast, ↓wc_seq, ↓wc_block, ↓wc_condL, ↓wc_region, ↓wr_cons, ↓wr_nil, ↓wc_skip, Nat.reduceAdd, Nat.reduceMul, Nat.reduceLT, Nat.reduceLeDiff, Nat.reduceEqDiff, ↓reduceIte, Nat.reduceBEq, reduceCtorEq, ne_eq, hal, h0, h3, h4, hjl, hv, hq, hpl, he, Lid.enc, wrap_ok, Int.natCast_add, Int.natCast_one]
    intro j' w' hj' hw'
    rcases Nat.lt_or_eq_of_le (Nat.le_of_lt_succ hj') with hj' | rfl
    ·exact hne j' w' hj' hw'
    ·rw [hv] at hw'
     cases hw'
     exact hvw
  ·have hnd' : (l.take (j + 1)).Nodup := (nodup_succ hq).2 ⟨hnd, fun hm => by
    obtain ⟨j', hj'⟩ := List.mem_iff_getElem?.1 hm
    have hjj : j' < j := by have := lt_of_get hj'; rw [List.length_take] at this; omega
    rw [List.getElem?_take_of_lt hjj] at hj'
    exact hne j' w hjj hj' rfl⟩
   simp (maxSteps := 1000000) (disch := omega) only [push_cast, ↓wc_seq, ↓wc_condL, ↓wc_region, ↓wr_cons, ↓wr_nil, ↓wc_exit, Nat.reduceAdd, Nat.reduceMul, Nat.reduceLT, Nat.reduceEqDiff, ↓reduceIte, Nat.reduceBEq, reduceCtorEq, ne_eq, hal, h0, h3, h4, Nat.lt_irrefl, wrap_ok, Int.natCast_add, Int.natCast_one]
   exact ⟨hlt, hnd'⟩
 obtain ⟨d, T, ho, rfl⟩ := this
 exact callD_pure rfl (by simp [pureL_cons, pureL_nil, D.pure, Lids_pure]) ho rfl
/-! ### Same -/
set_option maxHeartbeats 4000000 in
theorem SameLegs_c {l : List Lid} {lx ly : Bool} (hn : 120 ≤ n) (hl : l.length ≤ 100) (st : Bool) (S : List Ob) : callD E (dcall E n) st S 80 [.sl 4 (l.map Lid.enc) lx, .sl 4 (l.map Lid.enc) ly] = some (.bool true, S) := by
 obtain ⟨m, rfl⟩ : ∃ m, n = m + 1 := ⟨n - 1, by omega⟩
 have : WO (dcall E (m + 1) 80 [.sl 4 (l.map Lid.enc) lx, .sl 4 (l.map Lid.enc) ly] []) fun d T => d = .bool true := by
  refine wo_dcall Tryz.func80 rfl (by decide) rfl 26 rfl (fun a hal ha => ?_)
  have h0 : a[0]? = some (.sl 4 (l.map Lid.enc) lx) := ha 0 (by simp)
  have h1 : a[1]? = some (.sl 4 (l.map Lid.enc) ly) := ha 1 (by simp)
  clear ha
  have hpl := plain_lid
  simp (maxSteps := 1000000) (disch := omega) only [push_cast, ↓wc_seq, ↓wc_block, ↓wc_condL, ↓wc_region, ↓wr_cons, ↓wr_nil, ↓wc_skip, ↓wc_wl, Nat.reduceAdd, Nat.reduceMul, Nat.reduceLT, Nat.reduceEqDiff, ↓reduceIte, Nat.reduceBEq, reduceCtorEq, not_true_eq_false, hal, h0, h1]
  refine wl_loop (fun i a T => a.length = 26 ∧ a[0]? = some (.sl 4 (l.map Lid.enc) lx) ∧ a[1]? = some (.sl 4 (l.map Lid.enc) ly) ∧ a[5]? = some (.int .i64 i)) l.length ?_ (by omega) ?_
  ·simp (maxSteps := 1000000) (disch := omega) only [push_cast, Nat.reduceLT, Nat.reduceEqDiff, ↓reduceIte, reduceCtorEq, hal, h0, h1, Int.natCast_zero]
  clear hal h0 h1 a
  rintro i a T hi ⟨hal, h0, h1, h5⟩
  rcases Nat.lt_or_eq_of_le hi with hlt | rfl
  case inr =>
   simp (maxSteps := 1000000) (disch := omega) only [push_cast, ↓wc_seq, ↓wc_condL, ↓wc_region, ↓wr_cons, ↓wr_nil, ↓wc_exit, ↓wc_ret, Nat.reduceAdd, Nat.reduceMul, Nat.reduceLT, Nat.reduceEqDiff, ↓reduceIte, Nat.reduceBEq, reduceCtorEq, hal, h0, h5, Nat.lt_irrefl, Tryz.f80]
  obtain ⟨w, hq⟩ : ∃ w, l[i]? = some w := ⟨l[i], by simp⟩
  have he := eq_lid w w
  rw [decide_eq_true rfl] at he
  simp only [Lid.enc] at he
  simp (maxSteps := 1000000) (disch := omega) only [push_cast, ↓wc_seq, ↓wc_block, ↓wc_condL, ↓wc_region, ↓wr_cons, ↓wr_nil, ↓wc_skip, Nat.reduceAdd, Nat.reduceMul, Nat.reduceLT, Nat.reduceLeDiff, Nat.reduceEqDiff, ↓reduceIte, Nat.reduceBEq, reduceCtorEq, hal, h0, h1, h5, hlt, hq, hpl, he, Lid.enc, Bool.not_true, wrap_ok, Int.natCast_add, Int.natCast_one]
 obtain ⟨d, T, ho, rfl⟩ := this
 exact callD_pure rfl (by simp [pureL_cons, pureL_nil, D.pure, Lids_pure]) ho rfl
theorem SameLegs0 (hn : 2 ≤ n) (st : Bool) (S : List Ob) : callD E (dcall E n) st S 80 [.nils, .nils] = some (.bool true, S) := by
 obtain ⟨m, rfl⟩ : ∃ m, n = m + 1 := ⟨n - 1, by omega⟩
 have : WO (dcall E (m + 1) 80 [.nils, .nils] []) fun d T => d = .bool true := by
  refine wo_dcall Tryz.func80 rfl (by decide) rfl 26 rfl (fun a hal ha => ?_)
  have h0 : a[0]? = some (.nils) := ha 0 (by simp)
  have h1 : a[1]? = some (.nils) := ha 1 (by simp)
  clear ha
  simp (maxSteps := 1000000) (disch := omega) only [push_cast, ↓wc_seq, ↓wc_block, ↓wc_condL, ↓wc_region, ↓wr_cons, ↓wr_nil, ↓wc_skip, ↓wc_wl, Nat.reduceAdd, Nat.reduceMul, Nat.reduceLT, Nat.reduceEqDiff, ↓reduceIte, Nat.reduceBEq, reduceCtorEq, not_true_eq_false, hal, h0, h1]
  refine wl_loop (fun i a T => a.length = 26 ∧ a[0]? = some (.nils) ∧ a[1]? = some (.nils) ∧ a[5]? = some (.int .i64 0)) 0 ?_ (by omega) ?_
  ·simp (maxSteps := 1000000) (disch := omega) only [push_cast, Nat.reduceLT, Nat.reduceEqDiff, ↓reduceIte, reduceCtorEq, hal, h0, h1]
  clear hal h0 h1 a
  rintro i a T hi ⟨hal, h0, h1, h5⟩
  simp (maxSteps := 1000000) (disch := omega) only [push_cast, ↓wc_seq, ↓wc_condL, ↓wc_region, ↓wr_cons, ↓wr_nil, ↓wc_exit, ↓wc_ret, Nat.reduceAdd, Nat.reduceMul, Nat.reduceLT, Nat.reduceEqDiff, ↓reduceIte, Nat.reduceBEq, reduceCtorEq, hal, h0, h5, Int.lt_irrefl, Tryz.f80]
 obtain ⟨d, T, ho, rfl⟩ := this
 exact callD_pure rfl rfl ho rfl
theorem Same_c {x : Wt} (hn : 130 ≤ n) (hl : x.legs.length ≤ 100) (st : Bool) (S : List Ob) : callD E (dcall E n) st S 37 [.agg x.enc, .agg x.enc] = some (.bool true, S) := by
 obtain ⟨m, rfl⟩ : ∃ m, n = m + 1 := ⟨n - 1, by omega⟩
 have cl := fun st S => SameLegs_c (n := m) (l := x.legs) (lx := x.legsx) (ly := x.legsx) (by omega) hl st S
 have : WO (dcall E (m + 1) 37 [.agg x.enc, .agg x.enc] []) fun d T => d = .bool true := by
  refine wo_dcall Tryz.func37 rfl (by decide) rfl 38 rfl (fun a hal ha => ?_)
  have h0 : a[0]? = some (.agg x.enc) := ha 0 (by simp)
  have h1 : a[1]? = some (.agg x.enc) := ha 1 (by simp)
  clear ha
  simp only [Wt.enc] at h0 h1
  simp (maxSteps := 1000000) (disch := omega) only [push_cast, ↓wc_seq, ↓wc_region, ↓wr_cons, ↓wr_consgL, ↓wr_nil, ↓wo_pickL, ↓wo_callf, ↓wc_ret, Nat.reduceAdd, Nat.reduceMul, Nat.reduceLT, Nat.reduceEqDiff, ↓reduceIte, Nat.reduceBEq, hal, h0, h1, cl, List.nil_append, List.cons_append, List.length_cons, beq_self_eq_true, Tryz.f37]
 obtain ⟨d, T, ho, rfl⟩ := this
 exact callD_pure rfl (by simp [pureL_cons, pureL_nil, D.pure, Wt_pure]) ho rfl
theorem Same_z (hn : 130 ≤ n) (st : Bool) (S : List Ob) : callD E (dcall E n) st S 37 [.agg zW, .agg zW] = some (.bool true, S) := by
 obtain ⟨m, rfl⟩ : ∃ m, n = m + 1 := ⟨n - 1, by omega⟩
 have cl := fun st S => SameLegs0 (n := m) (by omega) st S
 have : WO (dcall E (m + 1) 37 [.agg zW, .agg zW] []) fun d T => d = .bool true := by
  refine wo_dcall Tryz.func37 rfl (by decide) rfl 38 rfl (fun a hal ha => ?_)
  have h0 : a[0]? = some (.agg zW) := ha 0 (by simp)
  have h1 : a[1]? = some (.agg zW) := ha 1 (by simp)
  clear ha
  simp only [zW] at h0 h1
  simp (maxSteps := 1000000) (disch := omega) only [push_cast, ↓wc_seq, ↓wc_region, ↓wr_cons, ↓wr_consgL, ↓wr_nil, ↓wo_pickL, ↓wo_callf, ↓wc_ret, Nat.reduceAdd, Nat.reduceMul, Nat.reduceLT, Nat.reduceEqDiff, ↓reduceIte, Nat.reduceBEq, hal, h0, h1, cl, List.nil_append, List.cons_append, List.length_cons, beq_self_eq_true, Tryz.f37]
 obtain ⟨d, T, ho, rfl⟩ := this
 exact callD_pure rfl rfl ho rfl
end
end Wl
end Go.Proofs.YthkbiiammhekfaaGreatDoor.Dm
