/-
  The law's calls, one by one: the results of the program's list and inventory are the reference's.
-/
import Derived.Test.YthkbiiammhekfaaGreatDoorWpG
set_option linter.unusedSimpArgs false
set_option linter.unusedVariables false
namespace Go.Proofs.YthkbiiammhekfaaGreatDoor.Dm
open Go Gw
set_option linter.unusedSimpArgs false
set_option linter.unusedSimpArgs false
namespace Wl

theorem wc_tmpF {E : Env} {call : Call} {n t : Nat} {x y : Code} {a : List D} {S : List Ob} {Q : PostX} (h : a[t]? = some (.bool false)) (k : WC (codeD E call n y a S) Q) : WC (codeD E call n (.cond (.tmp t) x y) a S) Q := by
 rw [wc_cond, show evD E a (.tmp t) = .bool false by show (a[t]?).getD _ = _; rw [h]; rfl]
 simpa [pickQ] using k
structure St (S : List Ob) (lab : Lab) (k kr p r : Nat) (A : Stk × List Wt) : Prop where
 pl : PLi S lab k A.2
 rl : RLi S lab kr A.2
 ss : SAt S lab 1 p A.1
 rs : RAt S lab 2 r A.1
section
variable {n c : Nat} {S : List Ob} {st : Bool} {lab : Lab} {k kr p r : Nat} {A : Stk × List Wt} {cfgs : List Cfg}
theorem St.push (h : St S lab k kr p r A) (J : List Ob) : St (S ++ J) lab k kr p r A := ⟨h.pl.push J, h.rl.push J, h.ss.push J, RAt.push h.rs J⟩
theorem leave_two (l : List Wt) (id : Int) : leaveE l id = (zW, 7) ∨ ∃ y ∈ l, leaveE l id = (y.enc, 0) := by
 unfold leaveE
 by_cases h : idxF id l < 0
 ·rw [if_pos h]; exact .inl rfl
 ·rw [if_neg h]
  obtain ⟨i, y, e1, e2, e3⟩ := idxF_ge h
  rw [e1, Int.toNat_natCast, e2]
  exact .inr ⟨y, List.mem_of_getElem? e2, rfl⟩
theorem next_two (s : Stk) (l : List Wt) : nextE s l = (zW, false) ∨ ∃ y ∈ l, nextE s l = (y.enc, true) := by
 unfold nextE
 cases h : l.find? fun y => servedF s y with
 | none => exact .inl rfl
 | some y => exact .inr ⟨y, List.mem_of_find?_eq_some h, rfl⟩
theorem set_self {α : Type} {l : List α} {i : Nat} {x : α} (h : l[i]? = some x) : l.set i x = l := by
 obtain ⟨h1, h2⟩ := List.getElem?_eq_some_iff.1 h
 rw [← h2, List.set_getElem_self]
theorem eqb (b : Bool) : dEq Tryz.prog 10000 4 (.bool b) (.bool b) = some true := by
 rw [show (10000 : Nat) = 9999 + 1 from rfl]
 simp only [dEq, Tryz.underlying4, beq_self_eq_true]
theorem GU.lst {b : Nat} {S : List Ob} {lab : Lab} {d : D} {l : List Wt} (h : GU b S lab d l) : Lst S d l := GL.lst h.1

set_option maxHeartbeats 64000000
set_option maxRecDepth 100000
theorem does0_d {nn : Int} {x : Wt} {eq : ByteArray} (hn : 1500 ≤ n) (h : St S lab k kr p r A) (inv : Inv cfgs c A) (hc : c ≤ 60) (he : Evt.Ok ⟨0, nn, x, eq⟩) (hls : cfgs.length ≤ 100) :
  WO (dcall E (n + 1) 12 [.loc k 0 0, .loc kr 0 0, .loc p 0 0, .loc r 0 0, .agg (Evt.enc ⟨0, nn, x, eq⟩)] S) fun d T => d = .bool true ∧ ∃ lab', St T lab' k kr p r (stepF A ⟨0, nn, x, eq⟩) := by
 obtain ⟨S1, hS1⟩ : ∃ S1, S1 = S ++ [Ob.row 8 [Evt.enc ⟨0, nn, x, eq⟩]] := ⟨_, rfl⟩
 have g0 : S1[S.length]? = some (.row 8 [Evt.enc ⟨0, nn, x, eq⟩]) := by rw [hS1]; exact get_end
 have hf := h.ss.1
 have l0 : lab S.length = [] := hf _ (Nat.le_refl _)
 have h1s : St S1 lab k kr p r A := by rw [hS1]; exact h.push _
 have hf1 := h1s.ss.1
 have hln := inv.n
 have hlm := inv.m
 obtain ⟨T2, lab2, cj, pl2, s2⟩ := JoinP (n := n) (x := x) (by omega) (by omega) inv.w he.legs he.fl hf1 h1s.pl
 obtain ⟨T3, lab3, cr, rl3, s3⟩ := JoinR (n := n) (x := x) (by omega) (by omega) inv.w he.legs s2.fresh (h1s.rl.keep (s2.keepO (by decide)))
 have g2 := (s2.free g0 l0).1
 have fin : St T3 lab3 k kr p r (stepF A ⟨0, nn, x, eq⟩) := by
  rw [show stepF A ⟨0, nn, x, eq⟩ = (A.1, (joinF A.2 x).2) by simp [stepF]]
  exact ⟨pl2.keep (s3.keepO (by decide)), rl3, (h1s.ss.other s2 (by decide)).other s3 (by decide), RAt.other (RAt.other h1s.rs s2 (by decide)) s3 (by decide)⟩
 generalize (joinF A.2 x).1 = cd at *
 simp only [Wt.enc] at cj cr
 have fin := (⟨_, fin⟩ : ∃ lab', St _ lab' k kr p r (stepF A ⟨0, nn, x, eq⟩))
 generalize stepF A ⟨0, nn, x, eq⟩ = A' at *
 refine wo_dcall Tryz.func12 rfl (by decide) rfl 165 rfl (fun a hal ha => ?_)
 have h0 : a[0]? = some (.loc k 0 0) := ha 0 (by simp)
 have h1 : a[1]? = some (.loc kr 0 0) := ha 1 (by simp)
 have h2 : a[2]? = some (.loc p 0 0) := ha 2 (by simp)
 have h3 : a[3]? = some (.loc r 0 0) := ha 3 (by simp)
 have h4 : a[4]? = some (.agg (Evt.enc ⟨0, nn, x, eq⟩)) := ha 4 (by simp)
 clear ha
 simp only [Evt.enc] at h4 g0 hS1 g2
 refine wc_scut (fun a V => V = S1 ∧ a.length = 165 ∧ a[0]? = some (.loc k 0 0) ∧ a[1]? = some (.loc kr 0 0) ∧ a[2]? = some (.loc p 0 0) ∧ a[3]? = some (.loc r 0 0) ∧ a[9]? = some (.loc S.length 0 0)) ?_ ?_
 ·simp (maxSteps := 1000000) (disch := omega) only [push_cast, ↓wc_region, ↓wr_cons, ↓wr_nil, Nat.reduceAdd, Nat.reduceMul, Nat.reduceLT, Nat.reduceEqDiff, ↓reduceIte, Nat.reduceBEq, reduceCtorEq, hal, h0, h1, h2, h3, h4]
  exact hS1.symm
 clear hal h0 h1 h2 h3 h4 a
 rintro a V ⟨rfl, hal, h0, h1, h2, h3, h9⟩
 rw [wc_seq]
 refine wc_scut (fun a W => W = V ∧ a.length = 165 ∧ a[0]? = some (.loc k 0 0) ∧ a[1]? = some (.loc kr 0 0) ∧ a[2]? = some (.loc p 0 0) ∧ a[3]? = some (.loc r 0 0) ∧ a[9]? = some (.loc S.length 0 0) ∧ a[20]? = some (.int .i64 0)) ?_ ?_
 ·simp (maxSteps := 1000000) (disch := omega) only [push_cast, ↓wc_region, ↓wr_cons, ↓wr_nil, Nat.reduceAdd, Nat.reduceMul, Nat.reduceLT, Nat.reduceEqDiff, ↓reduceIte, Nat.reduceBEq, reduceCtorEq, hal, h0, h1, h2, h3, h9, g0]
 clear hal h0 h1 h2 h3 h9 a
 rintro a W ⟨rfl, hal, h0, h1, h2, h3, h9, h20⟩
 rw [wc_block]
 refine wc_scut (fun a V => V = W ∧ a.length = 165 ∧ a[0]? = some (.loc k 0 0) ∧ a[1]? = some (.loc kr 0 0) ∧ a[2]? = some (.loc p 0 0) ∧ a[3]? = some (.loc r 0 0) ∧ a[9]? = some (.loc S.length 0 0) ∧ a[20]? = some (.int .i64 0) ∧ a[21]? = some (.bool true)) ?_ ?_
 ·simp (maxSteps := 1000000) (disch := omega) only [push_cast, ↓wc_region, ↓wr_cons, ↓wr_nil, Nat.reduceAdd, Nat.reduceMul, Nat.reduceLT, Nat.reduceEqDiff, ↓reduceIte, Nat.reduceBEq, reduceCtorEq, hal, h0, h1, h2, h3, h9, h20]
 clear hal h0 h1 h2 h3 h9 h20 a
 rintro a W ⟨rfl, hal, h0, h1, h2, h3, h9, h20, h21⟩
 refine wc_tmpT h21 ?_
 refine wc_scut (fun a V => V = T3 ∧ a.length = 165 ∧ a[10]? = some (.bool true)) ?_ ?_
 ·rw [wc_plan (p := (steps [0, 1, 2, 4, 5] (.both (steps [3, 6] .done) (steps [6, 3] .done))).andThen (steps [7, 8, 9] .done)) rfl]
  apply wp_then
  rw [wp_pick rfl]
  simp only [opsOf, List.filterMap_cons, List.filterMap_nil, List.getElem?_toArray, List.getElem?_cons_zero, List.getElem?_cons_succ]
  simp (maxSteps := 1000000) (disch := omega) only [push_cast, ↓wr_cons, ↓wr_nil, Nat.reduceAdd, Nat.reduceLT, Nat.reduceLeDiff, Nat.reduceEqDiff, ↓reduceIte, hal, h0, h1, h9, g0]
  apply wp_both
  ·rw [wp_pick rfl]
   simp only [opsOf, List.filterMap_cons, List.filterMap_nil, List.getElem?_toArray, List.getElem?_cons_zero, List.getElem?_cons_succ]
   simp (maxSteps := 1000000) (disch := omega) only [push_cast, ↓wr_cons, ↓wr_nil, ↓wo_callf, Nat.reduceAdd, Nat.reduceLT, Nat.reduceLeDiff, Nat.reduceEqDiff, ↓reduceIte, Nat.reduceBEq, hal, g2, cj, wp_done, ↓set_sorti, id_eq]
   exact ⟨rfl, rfl⟩
  ·rw [wp_pick rfl]
   simp only [opsOf, List.filterMap_cons, List.filterMap_nil, List.getElem?_toArray, List.getElem?_cons_zero, List.getElem?_cons_succ]
   simp (maxSteps := 1000000) (disch := omega) only [push_cast, ↓wr_cons, ↓wr_nil, ↓wo_callf, Nat.reduceAdd, Nat.reduceLT, Nat.reduceLeDiff, Nat.reduceEqDiff, ↓reduceIte, Nat.reduceBEq, hal, g0, cj, wp_done, ↓set_sorti, id_eq]
  rw [wp_pick rfl]
  simp only [opsOf, List.filterMap_cons, List.filterMap_nil, List.getElem?_toArray, List.getElem?_cons_zero, List.getElem?_cons_succ]
  simp (maxSteps := 1000000) (disch := omega) only [push_cast, ↓wr_cons, ↓wr_nil, ↓wo_callf, Nat.reduceLT, Nat.reduceEqDiff, ↓reduceIte, Nat.reduceBEq, hal, cr, beq_self_eq_true, wp_done]
 clear hal h0 h1 h2 h3 h9 h20 h21 a
 rintro a V ⟨rfl, hal, h10⟩
 simp (maxSteps := 1000000) (disch := omega) only [push_cast, ↓wc_ret, h10, Tryz.f12]
 exact fin
theorem does1_d {nn : Int} {x : Wt} {eq : ByteArray} (hn : 1500 ≤ n) (h : St S lab k kr p r A) (inv : Inv cfgs c A) (hc : c ≤ 60) (he : Evt.Ok ⟨1, nn, x, eq⟩) (hls : cfgs.length ≤ 100) :
  WO (dcall E (n + 1) 12 [.loc k 0 0, .loc kr 0 0, .loc p 0 0, .loc r 0 0, .agg (Evt.enc ⟨1, nn, x, eq⟩)] S) fun d T => d = .bool true ∧ ∃ lab', St T lab' k kr p r (stepF A ⟨1, nn, x, eq⟩) := by
 obtain ⟨S1, hS1⟩ : ∃ S1, S1 = S ++ [Ob.row 8 [Evt.enc ⟨1, nn, x, eq⟩]] := ⟨_, rfl⟩
 have g0 : S1[S.length]? = some (.row 8 [Evt.enc ⟨1, nn, x, eq⟩]) := by rw [hS1]; exact get_end
 have hf := h.ss.1
 have l0 : lab S.length = [] := hf _ (Nat.le_refl _)
 have h1s : St S1 lab k kr p r A := by rw [hS1]; exact h.push _
 have hf1 := h1s.ss.1
 have hln := inv.n
 have hlm := inv.m
 obtain ⟨T2, lab2, cj, pl2, s2⟩ := LeaveP (n := n) (id := nn) (by omega) (by omega) hf1 h1s.pl
 obtain ⟨X1, hX1⟩ : ∃ X1, X1 = T2 ++ [Ob.row 5 [(leaveE A.2 nn).1]] := ⟨_, rfl⟩
 have s2' : Step 3 S1 lab X1 lab2 := by rw [hX1]; exact s2.trans (Step.push s2.fresh _)
 have x2 : X1[T2.length]? = some (.row 5 [(leaveE A.2 nn).1]) := by rw [hX1]; exact get_end
 obtain ⟨T3, lab3, cr, rl3, s3⟩ := LeaveR (n := n) (id := nn) (by omega) (by omega) s2'.fresh (h1s.rl.keep (s2'.keepO (by decide)))
 obtain ⟨X2, hX2⟩ : ∃ X2, X2 = T3 ++ [Ob.row 5 [(leaveE A.2 nn).1]] := ⟨_, rfl⟩
 have s3' : Step 4 X1 lab2 X2 lab3 := by rw [hX2]; exact s3.trans (Step.push s3.fresh _)
 have y2 : X2[T3.length]? = some (.row 5 [(leaveE A.2 nn).1]) := by rw [hX2]; exact get_end
 have x3 := (s3'.free x2 (s2.fresh _ (Nat.le_refl _))).1
 have g2 := (s2.free g0 l0).1
 obtain ⟨g3, l3⟩ := s2'.free g0 l0
 have fin : St X2 lab3 k kr p r (stepF A ⟨1, nn, x, eq⟩) := by
  rw [show stepF A ⟨1, nn, x, eq⟩ = (A.1, remF A.2 nn) by simp [stepF]]
  refine ⟨?_, by rw [hX2]; exact rl3.push _, (h1s.ss.other s2' (by decide)).other s3' (by decide), RAt.other (RAt.other h1s.rs s2' (by decide)) s3' (by decide)⟩
  have : PLi X1 lab2 k (remF A.2 nn) := by rw [hX1]; exact pl2.push _
  exact this.keep (s3'.keepO (by decide))
 have fin := (⟨_, fin⟩ : ∃ lab', St _ lab' k kr p r (stepF A ⟨1, nn, x, eq⟩))
 generalize stepF A ⟨1, nn, x, eq⟩ = A' at *
 refine wo_dcall Tryz.func12 rfl (by decide) rfl 165 rfl (fun a hal ha => ?_)
 have h0 : a[0]? = some (.loc k 0 0) := ha 0 (by simp)
 have h1 : a[1]? = some (.loc kr 0 0) := ha 1 (by simp)
 have h2 : a[2]? = some (.loc p 0 0) := ha 2 (by simp)
 have h3 : a[3]? = some (.loc r 0 0) := ha 3 (by simp)
 have h4 : a[4]? = some (.agg (Evt.enc ⟨1, nn, x, eq⟩)) := ha 4 (by simp)
 clear ha
 simp only [Evt.enc] at h4 g0 hS1 g2 g3
 refine wc_scut (fun a V => V = S1 ∧ a.length = 165 ∧ a[0]? = some (.loc k 0 0) ∧ a[1]? = some (.loc kr 0 0) ∧ a[2]? = some (.loc p 0 0) ∧ a[3]? = some (.loc r 0 0) ∧ a[9]? = some (.loc S.length 0 0)) ?_ ?_
 ·simp (maxSteps := 1000000) (disch := omega) only [push_cast, ↓wc_region, ↓wr_cons, ↓wr_nil, Nat.reduceAdd, Nat.reduceMul, Nat.reduceLT, Nat.reduceEqDiff, ↓reduceIte, Nat.reduceBEq, reduceCtorEq, hal, h0, h1, h2, h3, h4]
  exact hS1.symm
 clear hal h0 h1 h2 h3 h4 a
 rintro a V ⟨rfl, hal, h0, h1, h2, h3, h9⟩
 rw [wc_seq]
 refine wc_scut (fun a W => W = V ∧ a.length = 165 ∧ a[0]? = some (.loc k 0 0) ∧ a[1]? = some (.loc kr 0 0) ∧ a[2]? = some (.loc p 0 0) ∧ a[3]? = some (.loc r 0 0) ∧ a[9]? = some (.loc S.length 0 0) ∧ a[20]? = some (.int .i64 1)) ?_ ?_
 ·simp (maxSteps := 1000000) (disch := omega) only [push_cast, ↓wc_region, ↓wr_cons, ↓wr_nil, Nat.reduceAdd, Nat.reduceMul, Nat.reduceLT, Nat.reduceEqDiff, ↓reduceIte, Nat.reduceBEq, reduceCtorEq, hal, h0, h1, h2, h3, h9, g0]
 clear hal h0 h1 h2 h3 h9 a
 rintro a W ⟨rfl, hal, h0, h1, h2, h3, h9, h20⟩
 rw [wc_block]
 refine wc_scut (fun a V => V = W ∧ a.length = 165 ∧ a[0]? = some (.loc k 0 0) ∧ a[1]? = some (.loc kr 0 0) ∧ a[2]? = some (.loc p 0 0) ∧ a[3]? = some (.loc r 0 0) ∧ a[9]? = some (.loc S.length 0 0) ∧ a[20]? = some (.int .i64 1) ∧ a[21]? = some (.bool false)) ?_ ?_
 ·simp (maxSteps := 1000000) (disch := omega) only [push_cast, ↓wc_region, ↓wr_cons, ↓wr_nil, Nat.reduceAdd, Nat.reduceMul, Nat.reduceLT, Nat.reduceEqDiff, Int.reduceEq, ↓reduceIte, Nat.reduceBEq, reduceCtorEq, hal, h0, h1, h2, h3, h9, h20]
 clear hal h0 h1 h2 h3 h9 h20 a
 rintro a W ⟨rfl, hal, h0, h1, h2, h3, h9, h20, h21⟩
 refine wc_tmpF h21 ?_
 refine wc_scut (fun a V => V = W ∧ a.length = 165 ∧ a[0]? = some (.loc k 0 0) ∧ a[1]? = some (.loc kr 0 0) ∧ a[2]? = some (.loc p 0 0) ∧ a[3]? = some (.loc r 0 0) ∧ a[9]? = some (.loc S.length 0 0) ∧ a[20]? = some (.int .i64 1) ∧ a[32]? = some (.bool true)) ?_ ?_
 ·simp (maxSteps := 1000000) (disch := omega) only [push_cast, ↓wc_region, ↓wr_cons, ↓wr_nil, Nat.reduceAdd, Nat.reduceMul, Nat.reduceLT, Nat.reduceEqDiff, ↓reduceIte, Nat.reduceBEq, reduceCtorEq, hal, h0, h1, h2, h3, h9, h20]
 clear hal h0 h1 h2 h3 h9 h20 h21 a
 rintro a W ⟨rfl, hal, h0, h1, h2, h3, h9, h20, h32⟩
 refine wc_tmpT h32 ?_
 rcases leave_two A.2 nn with hz | ⟨y, hym, hz⟩
 ·have csm := fun st S => Same_z (n := n) (by omega) st S
  rw [hz] at cj cr x2 x3 y2 hX1 hX2
  have ex1 := set_self x2
  have ex2 := set_self y2
  simp only [zW] at cj cr x2 x3 y2 hX1 hX2 csm ex1 ex2
  simp (maxSteps := 1000000) (disch := omega) only [push_cast, ↓wc_seq, ↓wc_region, ↓wr_cons, ↓wr_consgL, ↓wr_nil, ↓wo_pickL, ↓wo_callf, ↓wc_ret, Nat.reduceAdd, Nat.reduceMul, Nat.reduceLT, Nat.reduceLeDiff, Nat.reduceEqDiff, ↓reduceIte, Nat.reduceBEq, hal, h0, h1, h9, g0, g3, cj, cr, x2, x3, y2, hX1.symm, hX2.symm, ex1, ex2, csm, beq_self_eq_true, Tryz.f12]
  exact fin
 ·have csm := fun st S => Same_c (n := n) (x := y) (by omega) (by have := (inv.w.ok y hym).2.1; omega) st S
  rw [hz] at cj cr x2 x3 y2 hX1 hX2
  simp only [Wt.enc] at cj cr x2 x3 y2 hX1 hX2 csm
  simp (maxSteps := 1000000) (disch := omega) only [push_cast, ↓wc_seq, ↓wc_region, ↓wr_cons, ↓wr_consgL, ↓wr_nil, ↓wo_pickL, ↓wo_callf, ↓wc_ret, Nat.reduceAdd, Nat.reduceMul, Nat.reduceLT, Nat.reduceLeDiff, Nat.reduceEqDiff, ↓reduceIte, Nat.reduceBEq, hal, h0, h1, h9, g0, g3, cj, cr, x3, y2, hX1.symm, hX2.symm, csm, set_end, get_end, beq_self_eq_true, Tryz.f12]
  exact fin
theorem does2_d {nn : Int} {x : Wt} {eq : ByteArray} (hn : 1500 ≤ n) (h : St S lab k kr p r A) (inv : Inv cfgs c A) (hc : c ≤ 60) (he : Evt.Ok ⟨2, nn, x, eq⟩) (hls : cfgs.length ≤ 100) :
  WO (dcall E (n + 1) 12 [.loc k 0 0, .loc kr 0 0, .loc p 0 0, .loc r 0 0, .agg (Evt.enc ⟨2, nn, x, eq⟩)] S) fun d T => d = .bool true ∧ ∃ lab', St T lab' k kr p r (stepF A ⟨2, nn, x, eq⟩) := by
 obtain ⟨S1, hS1⟩ : ∃ S1, S1 = S ++ [Ob.row 8 [Evt.enc ⟨2, nn, x, eq⟩]] := ⟨_, rfl⟩
 have g0 : S1[S.length]? = some (.row 8 [Evt.enc ⟨2, nn, x, eq⟩]) := by rw [hS1]; exact get_end
 have hf := h.ss.1
 have l0 : lab S.length = [] := hf _ (Nat.le_refl _)
 have h1s : St S1 lab k kr p r A := by rw [hS1]; exact h.push _
 have hf1 := h1s.ss.1
 have hln := inv.n
 have hlm := inv.m
 have cj := fun st => NextP (n := n) (by omega) (by omega) inv.w h1s.pl h1s.ss inv.s st
 obtain ⟨X1, hX1⟩ : ∃ X1, X1 = S1 ++ [Ob.row 5 [(nextE A.1 A.2).1]] := ⟨_, rfl⟩
 have h2s : St X1 lab k kr p r A := by rw [hX1]; exact h1s.push _
 have x2 : X1[S1.length]? = some (.row 5 [(nextE A.1 A.2).1]) := by rw [hX1]; exact get_end
 have cr := fun st => NextR (n := n) (by omega) (by omega) inv.w h2s.rl h2s.rs inv.s.ok9 (by omega) (by rw [inv.l]; exact hls) st
 obtain ⟨X2, hX2⟩ : ∃ X2, X2 = X1 ++ [Ob.row 5 [(nextE A.1 A.2).1]] := ⟨_, rfl⟩
 have y2 : X2[X1.length]? = some (.row 5 [(nextE A.1 A.2).1]) := by rw [hX2]; exact get_end
 have x3 : X2[S1.length]? = some (.row 5 [(nextE A.1 A.2).1]) := by rw [hX2]; exact get_psh x2 _
 have fin : St X2 lab k kr p r (stepF A ⟨2, nn, x, eq⟩) := by
  rw [show stepF A ⟨2, nn, x, eq⟩ = A by simp [stepF]]
  rw [hX2]; exact h2s.push _
 have fin := (⟨_, fin⟩ : ∃ lab', St _ lab' k kr p r (stepF A ⟨2, nn, x, eq⟩))
 generalize stepF A ⟨2, nn, x, eq⟩ = A' at *
 refine wo_dcall Tryz.func12 rfl (by decide) rfl 165 rfl (fun a hal ha => ?_)
 have h0 : a[0]? = some (.loc k 0 0) := ha 0 (by simp)
 have h1 : a[1]? = some (.loc kr 0 0) := ha 1 (by simp)
 have h2 : a[2]? = some (.loc p 0 0) := ha 2 (by simp)
 have h3 : a[3]? = some (.loc r 0 0) := ha 3 (by simp)
 have h4 : a[4]? = some (.agg (Evt.enc ⟨2, nn, x, eq⟩)) := ha 4 (by simp)
 clear ha
 simp only [Evt.enc] at h4 g0 hS1
 refine wc_scut (fun a V => V = S1 ∧ a.length = 165 ∧ a[0]? = some (.loc k 0 0) ∧ a[1]? = some (.loc kr 0 0) ∧ a[2]? = some (.loc p 0 0) ∧ a[3]? = some (.loc r 0 0) ∧ a[9]? = some (.loc S.length 0 0)) ?_ ?_
 ·simp (maxSteps := 1000000) (disch := omega) only [push_cast, ↓wc_region, ↓wr_cons, ↓wr_nil, Nat.reduceAdd, Nat.reduceMul, Nat.reduceLT, Nat.reduceEqDiff, ↓reduceIte, Nat.reduceBEq, reduceCtorEq, hal, h0, h1, h2, h3, h4]
  exact hS1.symm
 clear hal h0 h1 h2 h3 h4 a
 rintro a V ⟨rfl, hal, h0, h1, h2, h3, h9⟩
 rw [wc_seq]
 refine wc_scut (fun a W => W = V ∧ a.length = 165 ∧ a[0]? = some (.loc k 0 0) ∧ a[1]? = some (.loc kr 0 0) ∧ a[2]? = some (.loc p 0 0) ∧ a[3]? = some (.loc r 0 0) ∧ a[9]? = some (.loc S.length 0 0) ∧ a[20]? = some (.int .i64 2)) ?_ ?_
 ·simp (maxSteps := 1000000) (disch := omega) only [push_cast, ↓wc_region, ↓wr_cons, ↓wr_nil, Nat.reduceAdd, Nat.reduceMul, Nat.reduceLT, Nat.reduceEqDiff, ↓reduceIte, Nat.reduceBEq, reduceCtorEq, hal, h0, h1, h2, h3, h9, g0]
 clear hal h0 h1 h2 h3 h9 a
 rintro a W ⟨rfl, hal, h0, h1, h2, h3, h9, h20⟩
 rw [wc_block]
 refine wc_scut (fun a V => V = W ∧ a.length = 165 ∧ a[0]? = some (.loc k 0 0) ∧ a[1]? = some (.loc kr 0 0) ∧ a[2]? = some (.loc p 0 0) ∧ a[3]? = some (.loc r 0 0) ∧ a[9]? = some (.loc S.length 0 0) ∧ a[20]? = some (.int .i64 2) ∧ a[21]? = some (.bool false)) ?_ ?_
 ·simp (maxSteps := 1000000) (disch := omega) only [push_cast, ↓wc_region, ↓wr_cons, ↓wr_nil, Nat.reduceAdd, Nat.reduceMul, Nat.reduceLT, Nat.reduceEqDiff, Int.reduceEq, ↓reduceIte, Nat.reduceBEq, reduceCtorEq, hal, h0, h1, h2, h3, h9, h20]
 clear hal h0 h1 h2 h3 h9 h20 a
 rintro a W ⟨rfl, hal, h0, h1, h2, h3, h9, h20, h21⟩
 refine wc_tmpF h21 ?_
 refine wc_scut (fun a V => V = W ∧ a.length = 165 ∧ a[0]? = some (.loc k 0 0) ∧ a[1]? = some (.loc kr 0 0) ∧ a[2]? = some (.loc p 0 0) ∧ a[3]? = some (.loc r 0 0) ∧ a[9]? = some (.loc S.length 0 0) ∧ a[20]? = some (.int .i64 2) ∧ a[32]? = some (.bool false)) ?_ ?_
 ·simp (maxSteps := 1000000) (disch := omega) only [push_cast, ↓wc_region, ↓wr_cons, ↓wr_nil, Nat.reduceAdd, Nat.reduceMul, Nat.reduceLT, Nat.reduceEqDiff, Int.reduceEq, ↓reduceIte, Nat.reduceBEq, reduceCtorEq, hal, h0, h1, h2, h3, h9, h20]
 clear hal h0 h1 h2 h3 h9 h20 h21 a
 rintro a W ⟨rfl, hal, h0, h1, h2, h3, h9, h20, h32⟩
 refine wc_tmpF h32 ?_
 refine wc_scut (fun a V => V = W ∧ a.length = 165 ∧ a[0]? = some (.loc k 0 0) ∧ a[1]? = some (.loc kr 0 0) ∧ a[2]? = some (.loc p 0 0) ∧ a[3]? = some (.loc r 0 0) ∧ a[9]? = some (.loc S.length 0 0) ∧ a[20]? = some (.int .i64 2) ∧ a[56]? = some (.bool true)) ?_ ?_
 ·simp (maxSteps := 1000000) (disch := omega) only [push_cast, ↓wc_region, ↓wr_cons, ↓wr_nil, Nat.reduceAdd, Nat.reduceMul, Nat.reduceLT, Nat.reduceEqDiff, ↓reduceIte, Nat.reduceBEq, reduceCtorEq, hal, h0, h1, h2, h3, h9, h20]
 clear hal h0 h1 h2 h3 h9 h20 h32 a
 rintro a W ⟨rfl, hal, h0, h1, h2, h3, h9, h20, h56⟩
 refine wc_tmpT h56 ?_
 rcases next_two A.1 A.2 with hz | ⟨y, hym, hz⟩
 ·have csm := fun st S => Same_z (n := n) (by omega) st S
  rw [hz] at cj cr x2 x3 y2 hX1 hX2
  have ex1 := set_self x2
  have ex2 := set_self y2
  simp only [zW] at cj cr x2 x3 y2 hX1 hX2 csm ex1 ex2
  simp (maxSteps := 1000000) (disch := omega) only [push_cast, ↓wc_seq, ↓wc_region, ↓wr_cons, ↓wr_consgL, ↓wr_nil, ↓wo_pickL, ↓wo_callf, ↓wc_ret, Nat.reduceAdd, Nat.reduceMul, Nat.reduceLT, Nat.reduceLeDiff, Nat.reduceEqDiff, ↓reduceIte, Nat.reduceBEq, hal, h0, h1, h2, h3, cj, cr, x2, x3, y2, hX1.symm, hX2.symm, ex1, ex2, csm, eqb, Tryz.f12]
  exact fin
 ·have csm := fun st S => Same_c (n := n) (x := y) (by omega) (by have := (inv.w.ok y hym).2.1; omega) st S
  rw [hz] at cj cr x2 x3 y2 hX1 hX2
  simp only [Wt.enc] at cj cr x2 x3 y2 hX1 hX2 csm
  simp (maxSteps := 1000000) (disch := omega) only [push_cast, ↓wc_seq, ↓wc_region, ↓wr_cons, ↓wr_consgL, ↓wr_nil, ↓wo_pickL, ↓wo_callf, ↓wc_ret, Nat.reduceAdd, Nat.reduceMul, Nat.reduceLT, Nat.reduceLeDiff, Nat.reduceEqDiff, ↓reduceIte, Nat.reduceBEq, hal, h0, h1, h2, h3, cj, cr, x3, y2, hX1.symm, hX2.symm, csm, eqb, set_end, get_end, Tryz.f12]
  exact fin
theorem does3_d {nn : Int} {x : Wt} {eq : ByteArray} (hn : 1500 ≤ n) (h : St S lab k kr p r A) (inv : Inv cfgs c A) (hc : c ≤ 60) (he : Evt.Ok ⟨3, nn, x, eq⟩) (hls : cfgs.length ≤ 100) :
  WO (dcall E (n + 1) 12 [.loc k 0 0, .loc kr 0 0, .loc p 0 0, .loc r 0 0, .agg (Evt.enc ⟨3, nn, x, eq⟩)] S) fun d T => d = .bool true ∧ ∃ lab', St T lab' k kr p r (stepF A ⟨3, nn, x, eq⟩) := by
 obtain ⟨S1, hS1⟩ : ∃ S1, S1 = S ++ [Ob.row 8 [Evt.enc ⟨3, nn, x, eq⟩]] := ⟨_, rfl⟩
 have g0 : S1[S.length]? = some (.row 8 [Evt.enc ⟨3, nn, x, eq⟩]) := by rw [hS1]; exact get_end
 have hf := h.ss.1
 have l0 : lab S.length = [] := hf _ (Nat.le_refl _)
 have h1s : St S1 lab k kr p r A := by rw [hS1]; exact h.push _
 have hf1 := h1s.ss.1
 have hln := inv.n
 have hlm := inv.m
 obtain ⟨d1, T2, lab2, cj, gu2, pl2, ss2, s2⟩ := ClearP (n := n) (by omega) (by omega) inv.w h1s.pl h1s.ss inv.s
 obtain ⟨d2, T3, lab3, cr, gu3, rl3, rs3, s3⟩ := ClearR (n := n) (by omega) (by omega) inv.w (h1s.rl.keep (s2.keepO (by decide))) (RAt.otherL h1s.rs s2 (by decide)) inv.s (by omega) (by rw [inv.l]; exact hls)
 have hsub := (clr_sub A.1 A.2).1
 have csm := fun st => same_c (n := n) (st := st) (by have := hsub.length_le; omega) (by have := hsub.length_le; omega) (fun y hy => by have := (inv.w.ok y (hsub.subset hy)).2.1; omega) (gu2.step s3).lst gu3.lst
 have fin : St T3 lab3 k kr p r (stepF A ⟨3, nn, x, eq⟩) := by
  rw [show stepF A ⟨3, nn, x, eq⟩ = ((clrF A.1 A.2).2.2, (clrF A.1 A.2).2.1) by simp [stepF]]
  exact ⟨pl2.keep (s3.keepO (by decide)), rl3, SAt.otherL ss2 s3 (by decide), rs3⟩
 have fin := (⟨_, fin⟩ : ∃ lab', St _ lab' k kr p r (stepF A ⟨3, nn, x, eq⟩))
 generalize stepF A ⟨3, nn, x, eq⟩ = A' at *
 refine wo_dcall Tryz.func12 rfl (by decide) rfl 165 rfl (fun a hal ha => ?_)
 have h0 : a[0]? = some (.loc k 0 0) := ha 0 (by simp)
 have h1 : a[1]? = some (.loc kr 0 0) := ha 1 (by simp)
 have h2 : a[2]? = some (.loc p 0 0) := ha 2 (by simp)
 have h3 : a[3]? = some (.loc r 0 0) := ha 3 (by simp)
 have h4 : a[4]? = some (.agg (Evt.enc ⟨3, nn, x, eq⟩)) := ha 4 (by simp)
 clear ha
 simp only [Evt.enc] at h4 g0 hS1
 refine wc_scut (fun a V => V = S1 ∧ a.length = 165 ∧ a[0]? = some (.loc k 0 0) ∧ a[1]? = some (.loc kr 0 0) ∧ a[2]? = some (.loc p 0 0) ∧ a[3]? = some (.loc r 0 0) ∧ a[9]? = some (.loc S.length 0 0)) ?_ ?_
 ·simp (maxSteps := 1000000) (disch := omega) only [push_cast, ↓wc_region, ↓wr_cons, ↓wr_nil, Nat.reduceAdd, Nat.reduceMul, Nat.reduceLT, Nat.reduceEqDiff, ↓reduceIte, Nat.reduceBEq, reduceCtorEq, hal, h0, h1, h2, h3, h4]
  exact hS1.symm
 clear hal h0 h1 h2 h3 h4 a
 rintro a V ⟨rfl, hal, h0, h1, h2, h3, h9⟩
 rw [wc_seq]
 refine wc_scut (fun a W => W = V ∧ a.length = 165 ∧ a[0]? = some (.loc k 0 0) ∧ a[1]? = some (.loc kr 0 0) ∧ a[2]? = some (.loc p 0 0) ∧ a[3]? = some (.loc r 0 0) ∧ a[9]? = some (.loc S.length 0 0) ∧ a[20]? = some (.int .i64 3)) ?_ ?_
 ·simp (maxSteps := 1000000) (disch := omega) only [push_cast, ↓wc_region, ↓wr_cons, ↓wr_nil, Nat.reduceAdd, Nat.reduceMul, Nat.reduceLT, Nat.reduceEqDiff, ↓reduceIte, Nat.reduceBEq, reduceCtorEq, hal, h0, h1, h2, h3, h9, g0]
 clear hal h0 h1 h2 h3 h9 a
 rintro a W ⟨rfl, hal, h0, h1, h2, h3, h9, h20⟩
 rw [wc_block]
 refine wc_scut (fun a V => V = W ∧ a.length = 165 ∧ a[0]? = some (.loc k 0 0) ∧ a[1]? = some (.loc kr 0 0) ∧ a[2]? = some (.loc p 0 0) ∧ a[3]? = some (.loc r 0 0) ∧ a[9]? = some (.loc S.length 0 0) ∧ a[20]? = some (.int .i64 3) ∧ a[21]? = some (.bool false)) ?_ ?_
 ·simp (maxSteps := 1000000) (disch := omega) only [push_cast, ↓wc_region, ↓wr_cons, ↓wr_nil, Nat.reduceAdd, Nat.reduceMul, Nat.reduceLT, Nat.reduceEqDiff, Int.reduceEq, ↓reduceIte, Nat.reduceBEq, reduceCtorEq, hal, h0, h1, h2, h3, h9, h20]
 clear hal h0 h1 h2 h3 h9 h20 a
 rintro a W ⟨rfl, hal, h0, h1, h2, h3, h9, h20, h21⟩
 refine wc_tmpF h21 ?_
 refine wc_scut (fun a V => V = W ∧ a.length = 165 ∧ a[0]? = some (.loc k 0 0) ∧ a[1]? = some (.loc kr 0 0) ∧ a[2]? = some (.loc p 0 0) ∧ a[3]? = some (.loc r 0 0) ∧ a[9]? = some (.loc S.length 0 0) ∧ a[20]? = some (.int .i64 3) ∧ a[32]? = some (.bool false)) ?_ ?_
 ·simp (maxSteps := 1000000) (disch := omega) only [push_cast, ↓wc_region, ↓wr_cons, ↓wr_nil, Nat.reduceAdd, Nat.reduceMul, Nat.reduceLT, Nat.reduceEqDiff, Int.reduceEq, ↓reduceIte, Nat.reduceBEq, reduceCtorEq, hal, h0, h1, h2, h3, h9, h20]
 clear hal h0 h1 h2 h3 h9 h20 h21 a
 rintro a W ⟨rfl, hal, h0, h1, h2, h3, h9, h20, h32⟩
 refine wc_tmpF h32 ?_
 refine wc_scut (fun a V => V = W ∧ a.length = 165 ∧ a[0]? = some (.loc k 0 0) ∧ a[1]? = some (.loc kr 0 0) ∧ a[2]? = some (.loc p 0 0) ∧ a[3]? = some (.loc r 0 0) ∧ a[9]? = some (.loc S.length 0 0) ∧ a[20]? = some (.int .i64 3) ∧ a[56]? = some (.bool false)) ?_ ?_
 ·simp (maxSteps := 1000000) (disch := omega) only [push_cast, ↓wc_region, ↓wr_cons, ↓wr_nil, Nat.reduceAdd, Nat.reduceMul, Nat.reduceLT, Nat.reduceEqDiff, Int.reduceEq, ↓reduceIte, Nat.reduceBEq, reduceCtorEq, hal, h0, h1, h2, h3, h9, h20]
 clear hal h0 h1 h2 h3 h9 h20 h32 a
 rintro a W ⟨rfl, hal, h0, h1, h2, h3, h9, h20, h56⟩
 refine wc_tmpF h56 ?_
 refine wc_scut (fun a V => V = W ∧ a.length = 165 ∧ a[0]? = some (.loc k 0 0) ∧ a[1]? = some (.loc kr 0 0) ∧ a[2]? = some (.loc p 0 0) ∧ a[3]? = some (.loc r 0 0) ∧ a[9]? = some (.loc S.length 0 0) ∧ a[20]? = some (.int .i64 3) ∧ a[78]? = some (.bool true)) ?_ ?_
 ·simp (maxSteps := 1000000) (disch := omega) only [push_cast, ↓wc_region, ↓wr_cons, ↓wr_nil, Nat.reduceAdd, Nat.reduceMul, Nat.reduceLT, Nat.reduceEqDiff, ↓reduceIte, Nat.reduceBEq, reduceCtorEq, hal, h0, h1, h2, h3, h9, h20]
 clear hal h0 h1 h2 h3 h9 h20 h56 a
 rintro a W ⟨rfl, hal, h0, h1, h2, h3, h9, h20, h78⟩
 refine wc_tmpT h78 ?_
 simp (maxSteps := 1000000) (disch := omega) only [push_cast, ↓wc_seq, ↓wc_region, ↓wr_cons, ↓wr_nil, ↓wo_callf, ↓wc_ret, Nat.reduceAdd, Nat.reduceMul, Nat.reduceLT, Nat.reduceEqDiff, ↓reduceIte, Nat.reduceBEq, hal, h0, h1, h2, h3, cj, cr, csm, Tryz.f12]
 exact fin
theorem does7_d {nn : Int} {x : Wt} {eq : ByteArray} {kd : Int} (k0 : ¬ kd = 0) (k1 : ¬ kd = 1) (k2 : ¬ kd = 2) (k3 : ¬ kd = 3) (k4 : ¬ kd = 4) (k5 : ¬ kd = 5) (k6 : ¬ kd = 6) (hn : 1500 ≤ n) (h : St S lab k kr p r A) (inv : Inv cfgs c A) (hc : c ≤ 60) (he : Evt.Ok ⟨kd, nn, x, eq⟩) (hls : cfgs.length ≤ 100) :
  WO (dcall E (n + 1) 12 [.loc k 0 0, .loc kr 0 0, .loc p 0 0, .loc r 0 0, .agg (Evt.enc ⟨kd, nn, x, eq⟩)] S) fun d T => d = .bool true ∧ ∃ lab', St T lab' k kr p r (stepF A ⟨kd, nn, x, eq⟩) := by
 obtain ⟨S1, hS1⟩ : ∃ S1, S1 = S ++ [Ob.row 8 [Evt.enc ⟨kd, nn, x, eq⟩]] := ⟨_, rfl⟩
 have g0 : S1[S.length]? = some (.row 8 [Evt.enc ⟨kd, nn, x, eq⟩]) := by rw [hS1]; exact get_end
 have hf := h.ss.1
 have l0 : lab S.length = [] := hf _ (Nat.le_refl _)
 have h1s : St S1 lab k kr p r A := by rw [hS1]; exact h.push _
 have hf1 := h1s.ss.1
 have hln := inv.n
 have hlm := inv.m
 have fin : St S1 lab k kr p r (stepF A ⟨kd, nn, x, eq⟩) := by
  rw [show stepF A ⟨kd, nn, x, eq⟩ = A by simp [stepF, k0, k1, k2, k3, k4, k5, k6]]
  exact h1s
 have fin := (⟨_, fin⟩ : ∃ lab', St _ lab' k kr p r (stepF A ⟨kd, nn, x, eq⟩))
 generalize stepF A ⟨kd, nn, x, eq⟩ = A' at *
 refine wo_dcall Tryz.func12 rfl (by decide) rfl 165 rfl (fun a hal ha => ?_)
 have h0 : a[0]? = some (.loc k 0 0) := ha 0 (by simp)
 have h1 : a[1]? = some (.loc kr 0 0) := ha 1 (by simp)
 have h2 : a[2]? = some (.loc p 0 0) := ha 2 (by simp)
 have h3 : a[3]? = some (.loc r 0 0) := ha 3 (by simp)
 have h4 : a[4]? = some (.agg (Evt.enc ⟨kd, nn, x, eq⟩)) := ha 4 (by simp)
 clear ha
 simp only [Evt.enc] at h4 g0 hS1
 refine wc_scut (fun a V => V = S1 ∧ a.length = 165 ∧ a[0]? = some (.loc k 0 0) ∧ a[1]? = some (.loc kr 0 0) ∧ a[2]? = some (.loc p 0 0) ∧ a[3]? = some (.loc r 0 0) ∧ a[9]? = some (.loc S.length 0 0)) ?_ ?_
 ·simp (maxSteps := 1000000) (disch := omega) only [push_cast, ↓wc_region, ↓wr_cons, ↓wr_nil, Nat.reduceAdd, Nat.reduceMul, Nat.reduceLT, Nat.reduceEqDiff, ↓reduceIte, Nat.reduceBEq, reduceCtorEq, hal, h0, h1, h2, h3, h4]
  exact hS1.symm
 clear hal h0 h1 h2 h3 h4 a
 rintro a V ⟨rfl, hal, h0, h1, h2, h3, h9⟩
 rw [wc_seq]
 refine wc_scut (fun a W => W = V ∧ a.length = 165 ∧ a[0]? = some (.loc k 0 0) ∧ a[1]? = some (.loc kr 0 0) ∧ a[2]? = some (.loc p 0 0) ∧ a[3]? = some (.loc r 0 0) ∧ a[9]? = some (.loc S.length 0 0) ∧ a[20]? = some (.int .i64 kd)) ?_ ?_
 ·simp (maxSteps := 1000000) (disch := omega) only [push_cast, ↓wc_region, ↓wr_cons, ↓wr_nil, Nat.reduceAdd, Nat.reduceMul, Nat.reduceLT, Nat.reduceEqDiff, ↓reduceIte, Nat.reduceBEq, reduceCtorEq, hal, h0, h1, h2, h3, h9, g0]
 clear hal h0 h1 h2 h3 h9 a
 rintro a W ⟨rfl, hal, h0, h1, h2, h3, h9, h20⟩
 rw [wc_block]
 refine wc_scut (fun a V => V = W ∧ a.length = 165 ∧ a[0]? = some (.loc k 0 0) ∧ a[1]? = some (.loc kr 0 0) ∧ a[2]? = some (.loc p 0 0) ∧ a[3]? = some (.loc r 0 0) ∧ a[9]? = some (.loc S.length 0 0) ∧ a[20]? = some (.int .i64 kd) ∧ a[21]? = some (.bool false)) ?_ ?_
 ·simp (maxSteps := 1000000) (disch := omega) only [push_cast, ↓wc_region, ↓wr_cons, ↓wr_nil, Nat.reduceAdd, Nat.reduceMul, Nat.reduceLT, Nat.reduceEqDiff, ↓reduceIte, Nat.reduceBEq, reduceCtorEq, hal, h0, h1, h2, h3, h9, h20, k0]
 clear hal h0 h1 h2 h3 h9 h20 a
 rintro a W ⟨rfl, hal, h0, h1, h2, h3, h9, h20, h21⟩
 refine wc_tmpF h21 ?_
 refine wc_scut (fun a V => V = W ∧ a.length = 165 ∧ a[0]? = some (.loc k 0 0) ∧ a[1]? = some (.loc kr 0 0) ∧ a[2]? = some (.loc p 0 0) ∧ a[3]? = some (.loc r 0 0) ∧ a[9]? = some (.loc S.length 0 0) ∧ a[20]? = some (.int .i64 kd) ∧ a[32]? = some (.bool false)) ?_ ?_
 ·simp (maxSteps := 1000000) (disch := omega) only [push_cast, ↓wc_region, ↓wr_cons, ↓wr_nil, Nat.reduceAdd, Nat.reduceMul, Nat.reduceLT, Nat.reduceEqDiff, ↓reduceIte, Nat.reduceBEq, reduceCtorEq, hal, h0, h1, h2, h3, h9, h20, k1]
 clear hal h0 h1 h2 h3 h9 h20 h21 a
 rintro a W ⟨rfl, hal, h0, h1, h2, h3, h9, h20, h32⟩
 refine wc_tmpF h32 ?_
 refine wc_scut (fun a V => V = W ∧ a.length = 165 ∧ a[0]? = some (.loc k 0 0) ∧ a[1]? = some (.loc kr 0 0) ∧ a[2]? = some (.loc p 0 0) ∧ a[3]? = some (.loc r 0 0) ∧ a[9]? = some (.loc S.length 0 0) ∧ a[20]? = some (.int .i64 kd) ∧ a[56]? = some (.bool false)) ?_ ?_
 ·simp (maxSteps := 1000000) (disch := omega) only [push_cast, ↓wc_region, ↓wr_cons, ↓wr_nil, Nat.reduceAdd, Nat.reduceMul, Nat.reduceLT, Nat.reduceEqDiff, ↓reduceIte, Nat.reduceBEq, reduceCtorEq, hal, h0, h1, h2, h3, h9, h20, k2]
 clear hal h0 h1 h2 h3 h9 h20 h32 a
 rintro a W ⟨rfl, hal, h0, h1, h2, h3, h9, h20, h56⟩
 refine wc_tmpF h56 ?_
 refine wc_scut (fun a V => V = W ∧ a.length = 165 ∧ a[0]? = some (.loc k 0 0) ∧ a[1]? = some (.loc kr 0 0) ∧ a[2]? = some (.loc p 0 0) ∧ a[3]? = some (.loc r 0 0) ∧ a[9]? = some (.loc S.length 0 0) ∧ a[20]? = some (.int .i64 kd) ∧ a[78]? = some (.bool false)) ?_ ?_
 ·simp (maxSteps := 1000000) (disch := omega) only [push_cast, ↓wc_region, ↓wr_cons, ↓wr_nil, Nat.reduceAdd, Nat.reduceMul, Nat.reduceLT, Nat.reduceEqDiff, ↓reduceIte, Nat.reduceBEq, reduceCtorEq, hal, h0, h1, h2, h3, h9, h20, k3]
 clear hal h0 h1 h2 h3 h9 h20 h56 a
 rintro a W ⟨rfl, hal, h0, h1, h2, h3, h9, h20, h78⟩
 refine wc_tmpF h78 ?_
 refine wc_scut (fun a V => V = W ∧ a.length = 165 ∧ a[0]? = some (.loc k 0 0) ∧ a[1]? = some (.loc kr 0 0) ∧ a[2]? = some (.loc p 0 0) ∧ a[3]? = some (.loc r 0 0) ∧ a[9]? = some (.loc S.length 0 0) ∧ a[20]? = some (.int .i64 kd) ∧ a[87]? = some (.bool false)) ?_ ?_
 ·simp (maxSteps := 1000000) (disch := omega) only [push_cast, ↓wc_region, ↓wr_cons, ↓wr_nil, Nat.reduceAdd, Nat.reduceMul, Nat.reduceLT, Nat.reduceEqDiff, ↓reduceIte, Nat.reduceBEq, reduceCtorEq, hal, h0, h1, h2, h3, h9, h20, k4]
 clear hal h0 h1 h2 h3 h9 h20 h78 a
 rintro a W ⟨rfl, hal, h0, h1, h2, h3, h9, h20, h87⟩
 refine wc_tmpF h87 ?_
 refine wc_scut (fun a V => V = W ∧ a.length = 165 ∧ a[0]? = some (.loc k 0 0) ∧ a[1]? = some (.loc kr 0 0) ∧ a[2]? = some (.loc p 0 0) ∧ a[3]? = some (.loc r 0 0) ∧ a[9]? = some (.loc S.length 0 0) ∧ a[20]? = some (.int .i64 kd) ∧ a[115]? = some (.bool false)) ?_ ?_
 ·simp (maxSteps := 1000000) (disch := omega) only [push_cast, ↓wc_region, ↓wr_cons, ↓wr_nil, Nat.reduceAdd, Nat.reduceMul, Nat.reduceLT, Nat.reduceEqDiff, ↓reduceIte, Nat.reduceBEq, reduceCtorEq, hal, h0, h1, h2, h3, h9, h20, k5]
 clear hal h0 h1 h2 h3 h9 h20 h87 a
 rintro a W ⟨rfl, hal, h0, h1, h2, h3, h9, h20, h115⟩
 refine wc_tmpF h115 ?_
 refine wc_scut (fun a V => V = W ∧ a.length = 165 ∧ a[0]? = some (.loc k 0 0) ∧ a[1]? = some (.loc kr 0 0) ∧ a[2]? = some (.loc p 0 0) ∧ a[3]? = some (.loc r 0 0) ∧ a[9]? = some (.loc S.length 0 0) ∧ a[20]? = some (.int .i64 kd) ∧ a[140]? = some (.bool false)) ?_ ?_
 ·simp (maxSteps := 1000000) (disch := omega) only [push_cast, ↓wc_region, ↓wr_cons, ↓wr_nil, Nat.reduceAdd, Nat.reduceMul, Nat.reduceLT, Nat.reduceEqDiff, ↓reduceIte, Nat.reduceBEq, reduceCtorEq, hal, h0, h1, h2, h3, h9, h20, k6]
 clear hal h0 h1 h2 h3 h9 h20 h115 a
 rintro a W ⟨rfl, hal, h0, h1, h2, h3, h9, h20, h140⟩
 refine wc_tmpF h140 ?_
 simp (maxSteps := 1000000) (disch := omega) only [push_cast, ↓wc_seq, ↓wc_region, ↓wr_cons, ↓wr_nil, ↓wc_ret, ↓wc_skip, Nat.reduceAdd, Nat.reduceMul, Nat.reduceLT, ↓reduceIte, Nat.reduceBEq, hal, Tryz.f12]
 exact fin
end
end Wl
end Go.Proofs.YthkbiiammhekfaaGreatDoor.Dm
