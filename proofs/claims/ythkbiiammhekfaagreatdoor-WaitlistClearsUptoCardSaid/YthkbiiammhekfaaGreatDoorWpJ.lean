/-
  The law's calls of the inventory, and all calls.
-/
import Derived.Test.YthkbiiammhekfaaGreatDoorWpI
set_option linter.unusedSimpArgs false
set_option linter.unusedVariables false
namespace Go.Proofs.YthkbiiammhekfaaGreatDoor.Dm
open Go Gw
set_option linter.unusedSimpArgs false
set_option linter.unusedSimpArgs false
namespace Wl
section
variable {n c : Nat} {S : List Ob} {st : Bool} {lab : Lab} {k kr p r : Nat} {A : Stk × List Wt} {cfgs : List Cfg}
set_option maxHeartbeats 64000000
set_option maxRecDepth 100000
theorem does5_d {nn : Int} {x : Wt} {eq : ByteArray} (hn : 1500 ≤ n) (h : St S lab k kr p r A) (inv : Inv cfgs c A) (hc : c ≤ 60) (he : Evt.Ok ⟨5, nn, x, eq⟩) (hls : cfgs.length ≤ 100) :
  WO (dcall E (n + 1) 12 [.loc k 0 0, .loc kr 0 0, .loc p 0 0, .loc r 0 0, .agg (Evt.enc ⟨5, nn, x, eq⟩)] S) fun d T => d = .bool true ∧ ∃ lab', St T lab' k kr p r (stepF A ⟨5, nn, x, eq⟩) := by
 obtain ⟨S1, hS1⟩ : ∃ S1, S1 = S ++ [Ob.row 8 [Evt.enc ⟨5, nn, x, eq⟩]] := ⟨_, rfl⟩
 have g0 : S1[S.length]? = some (.row 8 [Evt.enc ⟨5, nn, x, eq⟩]) := by rw [hS1]; exact get_end
 have hf := h.ss.1
 have l0 : lab S.length = [] := hf _ (Nat.le_refl _)
 have h1s : St S1 lab k kr p r A := by rw [hS1]; exact h.push _
 have hf1 := h1s.ss.1
 have hln := inv.n
 have hlm := inv.m
 obtain ⟨T2, lab2, cj, ss2, s2⟩ := Sell_c (n := n) (ids := x.legs) (by omega) h1s.ss inv.s.ok9 (by have := he.legs; dsimp only at this; omega) he.lid (di := .sl 4 (x.legs.map Lid.enc) x.legsx) (.inr ⟨_, rfl⟩) x.cl x.cnt
 obtain ⟨_, T3, cr, rfl, lab3, rs3, s3⟩ := gen_of (n := n) (by omega) rfl (rSell_d (n := n - 1) (ids := x.legs) (by omega) (RAt.other h1s.rs s2 (by decide)) inv.s.ok9 (by omega) (by rw [inv.l]; exact hls) (by have := he.legs; dsimp only at this; omega) (di := .sl 4 (x.legs.map Lid.enc) x.legsx) (.inr ⟨_, rfl⟩) x.cl x.cnt)
 have g2 := (s2.free g0 l0).1
 have fin : St T3 lab3 k kr p r (stepF A ⟨5, nn, x, eq⟩) := by
  rw [show stepF A ⟨5, nn, x, eq⟩ = ((A.1.sell x.legs x.cl x.cnt).2, A.2) by simp [stepF]]
  exact ⟨(h1s.pl.keep (s2.keepO (by decide))).keep (s3.keepO (by decide)), (h1s.rl.keep (s2.keepO (by decide))).keep (s3.keepO (by decide)), ss2.other s3 (by decide), rs3⟩
 generalize (A.1.sell x.legs x.cl x.cnt).1 = cd at *
 have fin := (⟨_, fin⟩ : ∃ lab', St _ lab' k kr p r (stepF A ⟨5, nn, x, eq⟩))
 generalize stepF A ⟨5, nn, x, eq⟩ = A' at *
 refine wo_dcall Tryz.func12 rfl (by decide) rfl 165 rfl (fun a hal ha => ?_)
 have h0 : a[0]? = some (.loc k 0 0) := ha 0 (by simp)
 have h1 : a[1]? = some (.loc kr 0 0) := ha 1 (by simp)
 have h2 : a[2]? = some (.loc p 0 0) := ha 2 (by simp)
 have h3 : a[3]? = some (.loc r 0 0) := ha 3 (by simp)
 have h4 : a[4]? = some (.agg (Evt.enc ⟨5, nn, x, eq⟩)) := ha 4 (by simp)
 clear ha
 simp only [Evt.enc] at h4 g0 hS1 g2
 refine wc_scut (fun a V => V = S1 ∧ a.length = 165 ∧ a[0]? = some (.loc k 0 0) ∧ a[1]? = some (.loc kr 0 0) ∧ a[2]? = some (.loc p 0 0) ∧ a[3]? = some (.loc r 0 0) ∧ a[9]? = some (.loc S.length 0 0)) ?_ ?_
 ·simp (maxSteps := 1000000) (disch := omega) only [push_cast, ↓wc_region, ↓wr_cons, ↓wr_nil, Nat.reduceAdd, Nat.reduceMul, Nat.reduceLT, Nat.reduceEqDiff, ↓reduceIte, Nat.reduceBEq, reduceCtorEq, hal, h0, h1, h2, h3, h4]
  exact hS1.symm
 clear hal h0 h1 h2 h3 h4 a
 rintro a V ⟨rfl, hal, h0, h1, h2, h3, h9⟩
 rw [wc_seq]
 refine wc_scut (fun a W => W = V ∧ a.length = 165 ∧ a[0]? = some (.loc k 0 0) ∧ a[1]? = some (.loc kr 0 0) ∧ a[2]? = some (.loc p 0 0) ∧ a[3]? = some (.loc r 0 0) ∧ a[9]? = some (.loc S.length 0 0) ∧ a[20]? = some (.int .i64 5)) ?_ ?_
 ·simp (maxSteps := 1000000) (disch := omega) only [push_cast, ↓wc_region, ↓wr_cons, ↓wr_nil, Nat.reduceAdd, Nat.reduceMul, Nat.reduceLT, Nat.reduceEqDiff, ↓reduceIte, Nat.reduceBEq, reduceCtorEq, hal, h0, h1, h2, h3, h9, g0]
 clear hal h0 h1 h2 h3 h9 a
 rintro a W ⟨rfl, hal, h0, h1, h2, h3, h9, h20⟩
 rw [wc_block]
 refine wc_scut (fun a V => V = W ∧ a.length = 165 ∧ a[0]? = some (.loc k 0 0) ∧ a[1]? = some (.loc kr 0 0) ∧ a[2]? = some (.loc p 0 0) ∧ a[3]? = some (.loc r 0 0) ∧ a[9]? = some (.loc S.length 0 0) ∧ a[20]? = some (.int .i64 5) ∧ a[21]? = some (.bool false)) ?_ ?_
 ·simp (maxSteps := 1000000) (disch := omega) only [push_cast, ↓wc_region, ↓wr_cons, ↓wr_nil, Nat.reduceAdd, Nat.reduceMul, Nat.reduceLT, Nat.reduceEqDiff, Int.reduceEq, ↓reduceIte, Nat.reduceBEq, reduceCtorEq, hal, h0, h1, h2, h3, h9, h20]
 clear hal h0 h1 h2 h3 h9 h20 a
 rintro a W ⟨rfl, hal, h0, h1, h2, h3, h9, h20, h21⟩
 refine wc_tmpF h21 ?_
 refine wc_scut (fun a V => V = W ∧ a.length = 165 ∧ a[0]? = some (.loc k 0 0) ∧ a[1]? = some (.loc kr 0 0) ∧ a[2]? = some (.loc p 0 0) ∧ a[3]? = some (.loc r 0 0) ∧ a[9]? = some (.loc S.length 0 0) ∧ a[20]? = some (.int .i64 5) ∧ a[32]? = some (.bool false)) ?_ ?_
 ·simp (maxSteps := 1000000) (disch := omega) only [push_cast, ↓wc_region, ↓wr_cons, ↓wr_nil, Nat.reduceAdd, Nat.reduceMul, Nat.reduceLT, Nat.reduceEqDiff, Int.reduceEq, ↓reduceIte, Nat.reduceBEq, reduceCtorEq, hal, h0, h1, h2, h3, h9, h20]
 clear hal h0 h1 h2 h3 h9 h20 h21 a
 rintro a W ⟨rfl, hal, h0, h1, h2, h3, h9, h20, h32⟩
 refine wc_tmpF h32 ?_
 refine wc_scut (fun a V => V = W ∧ a.length = 165 ∧ a[0]? = some (.loc k 0 0) ∧ a[1]? = some (.loc kr 0 0) ∧ a[2]? = some (.loc p 0 0) ∧ a[3]? = some (.loc r 0 0) ∧ a[9]? = some (.loc S.length 0 0) ∧ a[20]? = some (.int .i64 5) ∧ a[56]? = some (.bool false)) ?_ ?_
 ·simp (maxSteps := 1000000) (disch := omega) only [push_cast, ↓wc_region, ↓wr_cons, ↓wr_nil, Nat.reduceAdd, Nat.reduceMul, Nat.reduceLT, Nat.reduceEqDiff, Int.reduceEq, ↓reduceIte, Nat.reduceBEq, reduceCtorEq, hal, h0, h1, h2, h3, h9, h20]
 clear hal h0 h1 h2 h3 h9 h20 h32 a
 rintro a W ⟨rfl, hal, h0, h1, h2, h3, h9, h20, h56⟩
 refine wc_tmpF h56 ?_
 refine wc_scut (fun a V => V = W ∧ a.length = 165 ∧ a[0]? = some (.loc k 0 0) ∧ a[1]? = some (.loc kr 0 0) ∧ a[2]? = some (.loc p 0 0) ∧ a[3]? = some (.loc r 0 0) ∧ a[9]? = some (.loc S.length 0 0) ∧ a[20]? = some (.int .i64 5) ∧ a[78]? = some (.bool false)) ?_ ?_
 ·simp (maxSteps := 1000000) (disch := omega) only [push_cast, ↓wc_region, ↓wr_cons, ↓wr_nil, Nat.reduceAdd, Nat.reduceMul, Nat.reduceLT, Nat.reduceEqDiff, Int.reduceEq, ↓reduceIte, Nat.reduceBEq, reduceCtorEq, hal, h0, h1, h2, h3, h9, h20]
 clear hal h0 h1 h2 h3 h9 h20 h56 a
 rintro a W ⟨rfl, hal, h0, h1, h2, h3, h9, h20, h78⟩
 refine wc_tmpF h78 ?_
 refine wc_scut (fun a V => V = W ∧ a.length = 165 ∧ a[0]? = some (.loc k 0 0) ∧ a[1]? = some (.loc kr 0 0) ∧ a[2]? = some (.loc p 0 0) ∧ a[3]? = some (.loc r 0 0) ∧ a[9]? = some (.loc S.length 0 0) ∧ a[20]? = some (.int .i64 5) ∧ a[87]? = some (.bool false)) ?_ ?_
 ·simp (maxSteps := 1000000) (disch := omega) only [push_cast, ↓wc_region, ↓wr_cons, ↓wr_nil, Nat.reduceAdd, Nat.reduceMul, Nat.reduceLT, Nat.reduceEqDiff, Int.reduceEq, ↓reduceIte, Nat.reduceBEq, reduceCtorEq, hal, h0, h1, h2, h3, h9, h20]
 clear hal h0 h1 h2 h3 h9 h20 h78 a
 rintro a W ⟨rfl, hal, h0, h1, h2, h3, h9, h20, h87⟩
 refine wc_tmpF h87 ?_
 refine wc_scut (fun a V => V = W ∧ a.length = 165 ∧ a[0]? = some (.loc k 0 0) ∧ a[1]? = some (.loc kr 0 0) ∧ a[2]? = some (.loc p 0 0) ∧ a[3]? = some (.loc r 0 0) ∧ a[9]? = some (.loc S.length 0 0) ∧ a[20]? = some (.int .i64 5) ∧ a[115]? = some (.bool true)) ?_ ?_
 ·simp (maxSteps := 1000000) (disch := omega) only [push_cast, ↓wc_region, ↓wr_cons, ↓wr_nil, Nat.reduceAdd, Nat.reduceMul, Nat.reduceLT, Nat.reduceEqDiff, ↓reduceIte, Nat.reduceBEq, reduceCtorEq, hal, h0, h1, h2, h3, h9, h20]
 clear hal h0 h1 h2 h3 h9 h20 h87 a
 rintro a W ⟨rfl, hal, h0, h1, h2, h3, h9, h20, h115⟩
 refine wc_tmpT h115 ?_
 refine wc_scut (fun a V => V = T3 ∧ a.length = 165 ∧ a[10]? = some (.bool true)) ?_ ?_
 ·rw [wc_plan (p := (steps [0, 1, 2, 3, 4, 5, 6, 7, 8, 9, 11, 12, 13, 15, 16, 18, 19] (.both (steps [10, 14, 17, 20] .done) (.both (steps [14] (.both (steps [10, 17, 20] .done) (.both (steps [17] (.both (steps [10, 20] .done) (steps [20, 10] .done))) (steps [20] (.both (steps [10, 17] .done) (steps [17, 10] .done)))))) (.both (steps [17] (.both (steps [10, 14, 20] .done) (.both (steps [14] (.both (steps [10, 20] .done) (steps [20, 10] .done))) (steps [20] (.both (steps [10, 14] .done) (steps [14, 10] .done)))))) (steps [20] (.both (steps [10, 14, 17] .done) (.both (steps [14] (.both (steps [10, 17] .done) (steps [17, 10] .done))) (steps [17] (.both (steps [10, 14] .done) (steps [14, 10] .done)))))))))).andThen (steps [21, 22, 23] .done)) rfl]
  apply wp_then
  rw [wp_pick rfl]
  simp only [opsOf, List.filterMap_cons, List.filterMap_nil, List.getElem?_toArray, List.getElem?_cons_zero, List.getElem?_cons_succ]
  simp (maxSteps := 1000000) (disch := omega) only [push_cast, ↓wr_cons, ↓wr_nil, Nat.reduceAdd, Nat.reduceLT, Nat.reduceEqDiff, ↓reduceIte, hal, h2, h3, h9, g0]
  apply wp_both
  ·rw [wp_pick rfl]
   simp only [opsOf, List.filterMap_cons, List.filterMap_nil, List.getElem?_toArray, List.getElem?_cons_zero, List.getElem?_cons_succ]
   simp (maxSteps := 1000000) (disch := omega) only [push_cast, ↓wr_cons, ↓wr_nil, ↓wo_callf, Nat.reduceLT, Nat.reduceEqDiff, ↓reduceIte, Nat.reduceBEq, hal, g2, cj, wp_done, ↓set_sorti, id_eq]
   exact ⟨rfl, rfl⟩
  ·apply wp_both
   ·rw [wp_pick rfl]
    simp only [opsOf, List.filterMap_cons, List.filterMap_nil, List.getElem?_toArray, List.getElem?_cons_zero, List.getElem?_cons_succ]
    simp (maxSteps := 1000000) (disch := omega) only [push_cast, ↓wr_cons, ↓wr_nil, Nat.reduceLT, Nat.reduceEqDiff, ↓reduceIte, hal, g0, ↓set_sorti, id_eq]
    apply wp_both
    ·rw [wp_pick rfl]
     simp only [opsOf, List.filterMap_cons, List.filterMap_nil, List.getElem?_toArray, List.getElem?_cons_zero, List.getElem?_cons_succ]
     simp (maxSteps := 1000000) (disch := omega) only [push_cast, ↓wr_cons, ↓wr_nil, ↓wo_callf, Nat.reduceLT, Nat.reduceEqDiff, ↓reduceIte, Nat.reduceBEq, hal, g2, cj, wp_done, ↓set_sorti, id_eq]
     exact ⟨rfl, rfl⟩
    ·apply wp_both
     ·rw [wp_pick rfl]
      simp only [opsOf, List.filterMap_cons, List.filterMap_nil, List.getElem?_toArray, List.getElem?_cons_zero, List.getElem?_cons_succ]
      simp (maxSteps := 1000000) (disch := omega) only [push_cast, ↓wr_cons, ↓wr_nil, Nat.reduceLT, Nat.reduceEqDiff, ↓reduceIte, hal, g0, ↓set_sorti, id_eq]
      apply wp_both
      ·rw [wp_pick rfl]
       simp only [opsOf, List.filterMap_cons, List.filterMap_nil, List.getElem?_toArray, List.getElem?_cons_zero, List.getElem?_cons_succ]
       simp (maxSteps := 1000000) (disch := omega) only [push_cast, ↓wr_cons, ↓wr_nil, ↓wo_callf, Nat.reduceLT, Nat.reduceEqDiff, ↓reduceIte, Nat.reduceBEq, hal, g2, cj, wp_done, ↓set_sorti, id_eq]
       exact ⟨rfl, rfl⟩
      ·rw [wp_pick rfl]
       simp only [opsOf, List.filterMap_cons, List.filterMap_nil, List.getElem?_toArray, List.getElem?_cons_zero, List.getElem?_cons_succ]
       simp (maxSteps := 1000000) (disch := omega) only [push_cast, ↓wr_cons, ↓wr_nil, ↓wo_callf, Nat.reduceLT, Nat.reduceEqDiff, ↓reduceIte, Nat.reduceBEq, hal, g0, cj, wp_done, ↓set_sorti, id_eq]
      ·exact ⟨rfl, rfl⟩
     ·rw [wp_pick rfl]
      simp only [opsOf, List.filterMap_cons, List.filterMap_nil, List.getElem?_toArray, List.getElem?_cons_zero, List.getElem?_cons_succ]
      simp (maxSteps := 1000000) (disch := omega) only [push_cast, ↓wr_cons, ↓wr_nil, Nat.reduceLT, ↓reduceIte, hal, g0]
      apply wp_both
      ·rw [wp_pick rfl]
       simp only [opsOf, List.filterMap_cons, List.filterMap_nil, List.getElem?_toArray, List.getElem?_cons_zero, List.getElem?_cons_succ]
       simp (maxSteps := 1000000) (disch := omega) only [push_cast, ↓wr_cons, ↓wr_nil, ↓wo_callf, Nat.reduceLT, Nat.reduceEqDiff, ↓reduceIte, Nat.reduceBEq, hal, g2, cj, wp_done, ↓set_sorti, id_eq]
       exact ⟨rfl, rfl⟩
      ·rw [wp_pick rfl]
       simp only [opsOf, List.filterMap_cons, List.filterMap_nil, List.getElem?_toArray, List.getElem?_cons_zero, List.getElem?_cons_succ]
       simp (maxSteps := 1000000) (disch := omega) only [push_cast, ↓wr_cons, ↓wr_nil, ↓wo_callf, Nat.reduceLT, Nat.reduceEqDiff, ↓reduceIte, Nat.reduceBEq, hal, g0, cj, wp_done, ↓set_sorti, id_eq]
      ·exact ⟨rfl, rfl⟩
     ·exact ⟨rfl, rfl⟩
    ·exact ⟨rfl, rfl⟩
   ·apply wp_both
    ·rw [wp_pick rfl]
     simp only [opsOf, List.filterMap_cons, List.filterMap_nil, List.getElem?_toArray, List.getElem?_cons_zero, List.getElem?_cons_succ]
     simp (maxSteps := 1000000) (disch := omega) only [push_cast, ↓wr_cons, ↓wr_nil, Nat.reduceLT, Nat.reduceEqDiff, ↓reduceIte, hal, g0, ↓set_sorti, id_eq]
     apply wp_both
     ·rw [wp_pick rfl]
      simp only [opsOf, List.filterMap_cons, List.filterMap_nil, List.getElem?_toArray, List.getElem?_cons_zero, List.getElem?_cons_succ]
      simp (maxSteps := 1000000) (disch := omega) only [push_cast, ↓wr_cons, ↓wr_nil, ↓wo_callf, Nat.reduceLT, Nat.reduceEqDiff, ↓reduceIte, Nat.reduceBEq, hal, g2, cj, wp_done, ↓set_sorti, id_eq]
      exact ⟨rfl, rfl⟩
     ·apply wp_both
      ·rw [wp_pick rfl]
       simp only [opsOf, List.filterMap_cons, List.filterMap_nil, List.getElem?_toArray, List.getElem?_cons_zero, List.getElem?_cons_succ]
       simp (maxSteps := 1000000) (disch := omega) only [push_cast, ↓wr_cons, ↓wr_nil, Nat.reduceLT, Nat.reduceEqDiff, ↓reduceIte, hal, g0, ↓set_sorti, id_eq]
       apply wp_both
       ·rw [wp_pick rfl]
        simp only [opsOf, List.filterMap_cons, List.filterMap_nil, List.getElem?_toArray, List.getElem?_cons_zero, List.getElem?_cons_succ]
        simp (maxSteps := 1000000) (disch := omega) only [push_cast, ↓wr_cons, ↓wr_nil, ↓wo_callf, Nat.reduceLT, Nat.reduceEqDiff, ↓reduceIte, Nat.reduceBEq, hal, g2, cj, wp_done, ↓set_sorti, id_eq]
        exact ⟨rfl, rfl⟩
       ·rw [wp_pick rfl]
        simp only [opsOf, List.filterMap_cons, List.filterMap_nil, List.getElem?_toArray, List.getElem?_cons_zero, List.getElem?_cons_succ]
        simp (maxSteps := 1000000) (disch := omega) only [push_cast, ↓wr_cons, ↓wr_nil, ↓wo_callf, Nat.reduceLT, Nat.reduceEqDiff, ↓reduceIte, Nat.reduceBEq, hal, g0, cj, wp_done, ↓set_sorti, id_eq]
       ·exact ⟨rfl, rfl⟩
      ·rw [wp_pick rfl]
       simp only [opsOf, List.filterMap_cons, List.filterMap_nil, List.getElem?_toArray, List.getElem?_cons_zero, List.getElem?_cons_succ]
       simp (maxSteps := 1000000) (disch := omega) only [push_cast, ↓wr_cons, ↓wr_nil, Nat.reduceLT, ↓reduceIte, hal, g0]
       apply wp_both
       ·rw [wp_pick rfl]
        simp only [opsOf, List.filterMap_cons, List.filterMap_nil, List.getElem?_toArray, List.getElem?_cons_zero, List.getElem?_cons_succ]
        simp (maxSteps := 1000000) (disch := omega) only [push_cast, ↓wr_cons, ↓wr_nil, ↓wo_callf, Nat.reduceLT, Nat.reduceEqDiff, ↓reduceIte, Nat.reduceBEq, hal, g2, cj, wp_done, ↓set_sorti, id_eq]
        exact ⟨rfl, rfl⟩
       ·rw [wp_pick rfl]
        simp only [opsOf, List.filterMap_cons, List.filterMap_nil, List.getElem?_toArray, List.getElem?_cons_zero, List.getElem?_cons_succ]
        simp (maxSteps := 1000000) (disch := omega) only [push_cast, ↓wr_cons, ↓wr_nil, ↓wo_callf, Nat.reduceLT, Nat.reduceEqDiff, ↓reduceIte, Nat.reduceBEq, hal, g0, cj, wp_done, ↓set_sorti, id_eq]
       ·exact ⟨rfl, rfl⟩
      ·exact ⟨rfl, rfl⟩
     ·exact ⟨rfl, rfl⟩
    ·rw [wp_pick rfl]
     simp only [opsOf, List.filterMap_cons, List.filterMap_nil, List.getElem?_toArray, List.getElem?_cons_zero, List.getElem?_cons_succ]
     simp (maxSteps := 1000000) (disch := omega) only [push_cast, ↓wr_cons, ↓wr_nil, Nat.reduceLT, ↓reduceIte, hal, g0]
     apply wp_both
     ·rw [wp_pick rfl]
      simp only [opsOf, List.filterMap_cons, List.filterMap_nil, List.getElem?_toArray, List.getElem?_cons_zero, List.getElem?_cons_succ]
      simp (maxSteps := 1000000) (disch := omega) only [push_cast, ↓wr_cons, ↓wr_nil, ↓wo_callf, Nat.reduceLT, Nat.reduceEqDiff, ↓reduceIte, Nat.reduceBEq, hal, g2, cj, wp_done, ↓set_sorti, id_eq]
      exact ⟨rfl, rfl⟩
     ·apply wp_both
      ·rw [wp_pick rfl]
       simp only [opsOf, List.filterMap_cons, List.filterMap_nil, List.getElem?_toArray, List.getElem?_cons_zero, List.getElem?_cons_succ]
       simp (maxSteps := 1000000) (disch := omega) only [push_cast, ↓wr_cons, ↓wr_nil, Nat.reduceLT, Nat.reduceEqDiff, ↓reduceIte, hal, g0, ↓set_sorti, id_eq]
       apply wp_both
       ·rw [wp_pick rfl]
        simp only [opsOf, List.filterMap_cons, List.filterMap_nil, List.getElem?_toArray, List.getElem?_cons_zero, List.getElem?_cons_succ]
        simp (maxSteps := 1000000) (disch := omega) only [push_cast, ↓wr_cons, ↓wr_nil, ↓wo_callf, Nat.reduceLT, Nat.reduceEqDiff, ↓reduceIte, Nat.reduceBEq, hal, g2, cj, wp_done, ↓set_sorti, id_eq]
        exact ⟨rfl, rfl⟩
       ·rw [wp_pick rfl]
        simp only [opsOf, List.filterMap_cons, List.filterMap_nil, List.getElem?_toArray, List.getElem?_cons_zero, List.getElem?_cons_succ]
        simp (maxSteps := 1000000) (disch := omega) only [push_cast, ↓wr_cons, ↓wr_nil, ↓wo_callf, Nat.reduceLT, Nat.reduceEqDiff, ↓reduceIte, Nat.reduceBEq, hal, g0, cj, wp_done, ↓set_sorti, id_eq]
       ·exact ⟨rfl, rfl⟩
      ·rw [wp_pick rfl]
       simp only [opsOf, List.filterMap_cons, List.filterMap_nil, List.getElem?_toArray, List.getElem?_cons_zero, List.getElem?_cons_succ]
       simp (maxSteps := 1000000) (disch := omega) only [push_cast, ↓wr_cons, ↓wr_nil, Nat.reduceLT, Nat.reduceEqDiff, ↓reduceIte, hal, g0, ↓set_sorti, id_eq]
       apply wp_both
       ·rw [wp_pick rfl]
        simp only [opsOf, List.filterMap_cons, List.filterMap_nil, List.getElem?_toArray, List.getElem?_cons_zero, List.getElem?_cons_succ]
        simp (maxSteps := 1000000) (disch := omega) only [push_cast, ↓wr_cons, ↓wr_nil, ↓wo_callf, Nat.reduceLT, Nat.reduceEqDiff, ↓reduceIte, Nat.reduceBEq, hal, g2, cj, wp_done, ↓set_sorti, id_eq]
        exact ⟨rfl, rfl⟩
       ·rw [wp_pick rfl]
        simp only [opsOf, List.filterMap_cons, List.filterMap_nil, List.getElem?_toArray, List.getElem?_cons_zero, List.getElem?_cons_succ]
        simp (maxSteps := 1000000) (disch := omega) only [push_cast, ↓wr_cons, ↓wr_nil, ↓wo_callf, Nat.reduceLT, Nat.reduceEqDiff, ↓reduceIte, Nat.reduceBEq, hal, g0, cj, wp_done, ↓set_sorti, id_eq]
       ·exact ⟨rfl, rfl⟩
      ·exact ⟨rfl, rfl⟩
     ·exact ⟨rfl, rfl⟩
    ·exact ⟨rfl, rfl⟩
   ·exact ⟨rfl, rfl⟩
  rw [wp_pick rfl]
  simp only [opsOf, List.filterMap_cons, List.filterMap_nil, List.getElem?_toArray, List.getElem?_cons_zero, List.getElem?_cons_succ]
  simp (maxSteps := 1000000) (disch := omega) only [push_cast, ↓wr_cons, ↓wr_nil, ↓wo_callf, Nat.reduceLT, Nat.reduceEqDiff, ↓reduceIte, Nat.reduceBEq, hal, cr, beq_self_eq_true, wp_done]
 clear hal h0 h1 h2 h3 h9 h20 h115 a
 rintro a V ⟨rfl, hal, h10⟩
 simp (maxSteps := 1000000) (disch := omega) only [push_cast, ↓wc_ret, h10, Tryz.f12]
 exact fin
theorem does6_d {nn : Int} {x : Wt} {eq : ByteArray} (hn : 1500 ≤ n) (h : St S lab k kr p r A) (inv : Inv cfgs c A) (hc : c ≤ 60) (he : Evt.Ok ⟨6, nn, x, eq⟩) (hls : cfgs.length ≤ 100) :
  WO (dcall E (n + 1) 12 [.loc k 0 0, .loc kr 0 0, .loc p 0 0, .loc r 0 0, .agg (Evt.enc ⟨6, nn, x, eq⟩)] S) fun d T => d = .bool true ∧ ∃ lab', St T lab' k kr p r (stepF A ⟨6, nn, x, eq⟩) := by
 obtain ⟨S1, hS1⟩ : ∃ S1, S1 = S ++ [Ob.row 8 [Evt.enc ⟨6, nn, x, eq⟩]] := ⟨_, rfl⟩
 have g0 : S1[S.length]? = some (.row 8 [Evt.enc ⟨6, nn, x, eq⟩]) := by rw [hS1]; exact get_end
 have hf := h.ss.1
 have l0 : lab S.length = [] := hf _ (Nat.le_refl _)
 have h1s : St S1 lab k kr p r A := by rw [hS1]; exact h.push _
 have hf1 := h1s.ss.1
 have hln := inv.n
 have hlm := inv.m
 obtain ⟨T2, lab2, cj, ss2, s2⟩ := Cancel_c (n := n) (ids := x.legs) (by omega) h1s.ss inv.s.ok9 (by have := he.legs; dsimp only at this; omega) he.lid (di := .sl 4 (x.legs.map Lid.enc) x.legsx) (.inr ⟨_, rfl⟩) x.cl x.cnt
 obtain ⟨_, T3, cr, rfl, lab3, rs3, s3⟩ := gen_of (n := n) (by omega) rfl (rCancel_d (n := n - 1) (ids := x.legs) (by omega) (RAt.other h1s.rs s2 (by decide)) inv.s.ok9 (by omega) (by rw [inv.l]; exact hls) (by have := he.legs; dsimp only at this; omega) (di := .sl 4 (x.legs.map Lid.enc) x.legsx) (.inr ⟨_, rfl⟩) x.cl x.cnt)
 have g2 := (s2.free g0 l0).1
 have fin : St T3 lab3 k kr p r (stepF A ⟨6, nn, x, eq⟩) := by
  rw [show stepF A ⟨6, nn, x, eq⟩ = ((A.1.cancel x.legs x.cl x.cnt).2, A.2) by simp [stepF]]
  exact ⟨(h1s.pl.keep (s2.keepO (by decide))).keep (s3.keepO (by decide)), (h1s.rl.keep (s2.keepO (by decide))).keep (s3.keepO (by decide)), ss2.other s3 (by decide), rs3⟩
 generalize (A.1.cancel x.legs x.cl x.cnt).1 = cd at *
 have fin := (⟨_, fin⟩ : ∃ lab', St _ lab' k kr p r (stepF A ⟨6, nn, x, eq⟩))
 generalize stepF A ⟨6, nn, x, eq⟩ = A' at *
 refine wo_dcall Tryz.func12 rfl (by decide) rfl 165 rfl (fun a hal ha => ?_)
 have h0 : a[0]? = some (.loc k 0 0) := ha 0 (by simp)
 have h1 : a[1]? = some (.loc kr 0 0) := ha 1 (by simp)
 have h2 : a[2]? = some (.loc p 0 0) := ha 2 (by simp)
 have h3 : a[3]? = some (.loc r 0 0) := ha 3 (by simp)
 have h4 : a[4]? = some (.agg (Evt.enc ⟨6, nn, x, eq⟩)) := ha 4 (by simp)
 clear ha
 simp only [Evt.enc] at h4 g0 hS1 g2
 refine wc_scut (fun a V => V = S1 ∧ a.length = 165 ∧ a[0]? = some (.loc k 0 0) ∧ a[1]? = some (.loc kr 0 0) ∧ a[2]? = some (.loc p 0 0) ∧ a[3]? = some (.loc r 0 0) ∧ a[9]? = some (.loc S.length 0 0)) ?_ ?_
 ·simp (maxSteps := 1000000) (disch := omega) only [push_cast, ↓wc_region, ↓wr_cons, ↓wr_nil, Nat.reduceAdd, Nat.reduceMul, Nat.reduceLT, Nat.reduceEqDiff, ↓reduceIte, Nat.reduceBEq, reduceCtorEq, hal, h0, h1, h2, h3, h4]
  exact hS1.symm
 clear hal h0 h1 h2 h3 h4 a
 rintro a V ⟨rfl, hal, h0, h1, h2, h3, h9⟩
 rw [wc_seq]
 refine wc_scut (fun a W => W = V ∧ a.length = 165 ∧ a[0]? = some (.loc k 0 0) ∧ a[1]? = some (.loc kr 0 0) ∧ a[2]? = some (.loc p 0 0) ∧ a[3]? = some (.loc r 0 0) ∧ a[9]? = some (.loc S.length 0 0) ∧ a[20]? = some (.int .i64 6)) ?_ ?_
 ·simp (maxSteps := 1000000) (disch := omega) only [push_cast, ↓wc_region, ↓wr_cons, ↓wr_nil, Nat.reduceAdd, Nat.reduceMul, Nat.reduceLT, Nat.reduceEqDiff, ↓reduceIte, Nat.reduceBEq, reduceCtorEq, hal, h0, h1, h2, h3, h9, g0]
 clear hal h0 h1 h2 h3 h9 a
 rintro a W ⟨rfl, hal, h0, h1, h2, h3, h9, h20⟩
 rw [wc_block]
 refine wc_scut (fun a V => V = W ∧ a.length = 165 ∧ a[0]? = some (.loc k 0 0) ∧ a[1]? = some (.loc kr 0 0) ∧ a[2]? = some (.loc p 0 0) ∧ a[3]? = some (.loc r 0 0) ∧ a[9]? = some (.loc S.length 0 0) ∧ a[20]? = some (.int .i64 6) ∧ a[21]? = some (.bool false)) ?_ ?_
 ·simp (maxSteps := 1000000) (disch := omega) only [push_cast, ↓wc_region, ↓wr_cons, ↓wr_nil, Nat.reduceAdd, Nat.reduceMul, Nat.reduceLT, Nat.reduceEqDiff, Int.reduceEq, ↓reduceIte, Nat.reduceBEq, reduceCtorEq, hal, h0, h1, h2, h3, h9, h20]
 clear hal h0 h1 h2 h3 h9 h20 a
 rintro a W ⟨rfl, hal, h0, h1, h2, h3, h9, h20, h21⟩
 refine wc_tmpF h21 ?_
 refine wc_scut (fun a V => V = W ∧ a.length = 165 ∧ a[0]? = some (.loc k 0 0) ∧ a[1]? = some (.loc kr 0 0) ∧ a[2]? = some (.loc p 0 0) ∧ a[3]? = some (.loc r 0 0) ∧ a[9]? = some (.loc S.length 0 0) ∧ a[20]? = some (.int .i64 6) ∧ a[32]? = some (.bool false)) ?_ ?_
 ·simp (maxSteps := 1000000) (disch := omega) only [push_cast, ↓wc_region, ↓wr_cons, ↓wr_nil, Nat.reduceAdd, Nat.reduceMul, Nat.reduceLT, Nat.reduceEqDiff, Int.reduceEq, ↓reduceIte, Nat.reduceBEq, reduceCtorEq, hal, h0, h1, h2, h3, h9, h20]
 clear hal h0 h1 h2 h3 h9 h20 h21 a
 rintro a W ⟨rfl, hal, h0, h1, h2, h3, h9, h20, h32⟩
 refine wc_tmpF h32 ?_
 refine wc_scut (fun a V => V = W ∧ a.length = 165 ∧ a[0]? = some (.loc k 0 0) ∧ a[1]? = some (.loc kr 0 0) ∧ a[2]? = some (.loc p 0 0) ∧ a[3]? = some (.loc r 0 0) ∧ a[9]? = some (.loc S.length 0 0) ∧ a[20]? = some (.int .i64 6) ∧ a[56]? = some (.bool false)) ?_ ?_
 ·simp (maxSteps := 1000000) (disch := omega) only [push_cast, ↓wc_region, ↓wr_cons, ↓wr_nil, Nat.reduceAdd, Nat.reduceMul, Nat.reduceLT, Nat.reduceEqDiff, Int.reduceEq, ↓reduceIte, Nat.reduceBEq, reduceCtorEq, hal, h0, h1, h2, h3, h9, h20]
 clear hal h0 h1 h2 h3 h9 h20 h32 a
 rintro a W ⟨rfl, hal, h0, h1, h2, h3, h9, h20, h56⟩
 refine wc_tmpF h56 ?_
 refine wc_scut (fun a V => V = W ∧ a.length = 165 ∧ a[0]? = some (.loc k 0 0) ∧ a[1]? = some (.loc kr 0 0) ∧ a[2]? = some (.loc p 0 0) ∧ a[3]? = some (.loc r 0 0) ∧ a[9]? = some (.loc S.length 0 0) ∧ a[20]? = some (.int .i64 6) ∧ a[78]? = some (.bool false)) ?_ ?_
 ·simp (maxSteps := 1000000) (disch := omega) only [push_cast, ↓wc_region, ↓wr_cons, ↓wr_nil, Nat.reduceAdd, Nat.reduceMul, Nat.reduceLT, Nat.reduceEqDiff, Int.reduceEq, ↓reduceIte, Nat.reduceBEq, reduceCtorEq, hal, h0, h1, h2, h3, h9, h20]
 clear hal h0 h1 h2 h3 h9 h20 h56 a
 rintro a W ⟨rfl, hal, h0, h1, h2, h3, h9, h20, h78⟩
 refine wc_tmpF h78 ?_
 refine wc_scut (fun a V => V = W ∧ a.length = 165 ∧ a[0]? = some (.loc k 0 0) ∧ a[1]? = some (.loc kr 0 0) ∧ a[2]? = some (.loc p 0 0) ∧ a[3]? = some (.loc r 0 0) ∧ a[9]? = some (.loc S.length 0 0) ∧ a[20]? = some (.int .i64 6) ∧ a[87]? = some (.bool false)) ?_ ?_
 ·simp (maxSteps := 1000000) (disch := omega) only [push_cast, ↓wc_region, ↓wr_cons, ↓wr_nil, Nat.reduceAdd, Nat.reduceMul, Nat.reduceLT, Nat.reduceEqDiff, Int.reduceEq, ↓reduceIte, Nat.reduceBEq, reduceCtorEq, hal, h0, h1, h2, h3, h9, h20]
 clear hal h0 h1 h2 h3 h9 h20 h78 a
 rintro a W ⟨rfl, hal, h0, h1, h2, h3, h9, h20, h87⟩
 refine wc_tmpF h87 ?_
 refine wc_scut (fun a V => V = W ∧ a.length = 165 ∧ a[0]? = some (.loc k 0 0) ∧ a[1]? = some (.loc kr 0 0) ∧ a[2]? = some (.loc p 0 0) ∧ a[3]? = some (.loc r 0 0) ∧ a[9]? = some (.loc S.length 0 0) ∧ a[20]? = some (.int .i64 6) ∧ a[115]? = some (.bool false)) ?_ ?_
 ·simp (maxSteps := 1000000) (disch := omega) only [push_cast, ↓wc_region, ↓wr_cons, ↓wr_nil, Nat.reduceAdd, Nat.reduceMul, Nat.reduceLT, Nat.reduceEqDiff, Int.reduceEq, ↓reduceIte, Nat.reduceBEq, reduceCtorEq, hal, h0, h1, h2, h3, h9, h20]
 clear hal h0 h1 h2 h3 h9 h20 h87 a
 rintro a W ⟨rfl, hal, h0, h1, h2, h3, h9, h20, h115⟩
 refine wc_tmpF h115 ?_
 refine wc_scut (fun a V => V = W ∧ a.length = 165 ∧ a[0]? = some (.loc k 0 0) ∧ a[1]? = some (.loc kr 0 0) ∧ a[2]? = some (.loc p 0 0) ∧ a[3]? = some (.loc r 0 0) ∧ a[9]? = some (.loc S.length 0 0) ∧ a[20]? = some (.int .i64 6) ∧ a[140]? = some (.bool true)) ?_ ?_
 ·simp (maxSteps := 1000000) (disch := omega) only [push_cast, ↓wc_region, ↓wr_cons, ↓wr_nil, Nat.reduceAdd, Nat.reduceMul, Nat.reduceLT, Nat.reduceEqDiff, ↓reduceIte, Nat.reduceBEq, reduceCtorEq, hal, h0, h1, h2, h3, h9, h20]
 clear hal h0 h1 h2 h3 h9 h20 h115 a
 rintro a W ⟨rfl, hal, h0, h1, h2, h3, h9, h20, h140⟩
 refine wc_tmpT h140 ?_
 refine wc_scut (fun a V => V = T3 ∧ a.length = 165 ∧ a[10]? = some (.bool true)) ?_ ?_
 ·rw [wc_plan (p := (steps [0, 1, 2, 3, 4, 5, 6, 7, 8, 9, 11, 12, 13, 15, 16, 18, 19] (.both (steps [10, 14, 17, 20] .done) (.both (steps [14] (.both (steps [10, 17, 20] .done) (.both (steps [17] (.both (steps [10, 20] .done) (steps [20, 10] .done))) (steps [20] (.both (steps [10, 17] .done) (steps [17, 10] .done)))))) (.both (steps [17] (.both (steps [10, 14, 20] .done) (.both (steps [14] (.both (steps [10, 20] .done) (steps [20, 10] .done))) (steps [20] (.both (steps [10, 14] .done) (steps [14, 10] .done)))))) (steps [20] (.both (steps [10, 14, 17] .done) (.both (steps [14] (.both (steps [10, 17] .done) (steps [17, 10] .done))) (steps [17] (.both (steps [10, 14] .done) (steps [14, 10] .done)))))))))).andThen (steps [21, 22, 23] .done)) rfl]
  apply wp_then
  rw [wp_pick rfl]
  simp only [opsOf, List.filterMap_cons, List.filterMap_nil, List.getElem?_toArray, List.getElem?_cons_zero, List.getElem?_cons_succ]
  simp (maxSteps := 1000000) (disch := omega) only [push_cast, ↓wr_cons, ↓wr_nil, Nat.reduceAdd, Nat.reduceLT, Nat.reduceEqDiff, ↓reduceIte, hal, h2, h3, h9, g0]
  apply wp_both
  ·rw [wp_pick rfl]
   simp only [opsOf, List.filterMap_cons, List.filterMap_nil, List.getElem?_toArray, List.getElem?_cons_zero, List.getElem?_cons_succ]
   simp (maxSteps := 1000000) (disch := omega) only [push_cast, ↓wr_cons, ↓wr_nil, ↓wo_callf, Nat.reduceLT, Nat.reduceEqDiff, ↓reduceIte, Nat.reduceBEq, hal, g2, cj, wp_done, ↓set_sorti, id_eq]
   exact ⟨rfl, rfl⟩
  ·apply wp_both
   ·rw [wp_pick rfl]
    simp only [opsOf, List.filterMap_cons, List.filterMap_nil, List.getElem?_toArray, List.getElem?_cons_zero, List.getElem?_cons_succ]
    simp (maxSteps := 1000000) (disch := omega) only [push_cast, ↓wr_cons, ↓wr_nil, Nat.reduceLT, Nat.reduceEqDiff, ↓reduceIte, hal, g0, ↓set_sorti, id_eq]
    apply wp_both
    ·rw [wp_pick rfl]
     simp only [opsOf, List.filterMap_cons, List.filterMap_nil, List.getElem?_toArray, List.getElem?_cons_zero, List.getElem?_cons_succ]
     simp (maxSteps := 1000000) (disch := omega) only [push_cast, ↓wr_cons, ↓wr_nil, ↓wo_callf, Nat.reduceLT, Nat.reduceEqDiff, ↓reduceIte, Nat.reduceBEq, hal, g2, cj, wp_done, ↓set_sorti, id_eq]
     exact ⟨rfl, rfl⟩
    ·apply wp_both
     ·rw [wp_pick rfl]
      simp only [opsOf, List.filterMap_cons, List.filterMap_nil, List.getElem?_toArray, List.getElem?_cons_zero, List.getElem?_cons_succ]
      simp (maxSteps := 1000000) (disch := omega) only [push_cast, ↓wr_cons, ↓wr_nil, Nat.reduceLT, Nat.reduceEqDiff, ↓reduceIte, hal, g0, ↓set_sorti, id_eq]
      apply wp_both
      ·rw [wp_pick rfl]
       simp only [opsOf, List.filterMap_cons, List.filterMap_nil, List.getElem?_toArray, List.getElem?_cons_zero, List.getElem?_cons_succ]
       simp (maxSteps := 1000000) (disch := omega) only [push_cast, ↓wr_cons, ↓wr_nil, ↓wo_callf, Nat.reduceLT, Nat.reduceEqDiff, ↓reduceIte, Nat.reduceBEq, hal, g2, cj, wp_done, ↓set_sorti, id_eq]
       exact ⟨rfl, rfl⟩
      ·rw [wp_pick rfl]
       simp only [opsOf, List.filterMap_cons, List.filterMap_nil, List.getElem?_toArray, List.getElem?_cons_zero, List.getElem?_cons_succ]
       simp (maxSteps := 1000000) (disch := omega) only [push_cast, ↓wr_cons, ↓wr_nil, ↓wo_callf, Nat.reduceLT, Nat.reduceEqDiff, ↓reduceIte, Nat.reduceBEq, hal, g0, cj, wp_done, ↓set_sorti, id_eq]
      ·exact ⟨rfl, rfl⟩
     ·rw [wp_pick rfl]
      simp only [opsOf, List.filterMap_cons, List.filterMap_nil, List.getElem?_toArray, List.getElem?_cons_zero, List.getElem?_cons_succ]
      simp (maxSteps := 1000000) (disch := omega) only [push_cast, ↓wr_cons, ↓wr_nil, Nat.reduceLT, ↓reduceIte, hal, g0]
      apply wp_both
      ·rw [wp_pick rfl]
       simp only [opsOf, List.filterMap_cons, List.filterMap_nil, List.getElem?_toArray, List.getElem?_cons_zero, List.getElem?_cons_succ]
       simp (maxSteps := 1000000) (disch := omega) only [push_cast, ↓wr_cons, ↓wr_nil, ↓wo_callf, Nat.reduceLT, Nat.reduceEqDiff, ↓reduceIte, Nat.reduceBEq, hal, g2, cj, wp_done, ↓set_sorti, id_eq]
       exact ⟨rfl, rfl⟩
      ·rw [wp_pick rfl]
       simp only [opsOf, List.filterMap_cons, List.filterMap_nil, List.getElem?_toArray, List.getElem?_cons_zero, List.getElem?_cons_succ]
       simp (maxSteps := 1000000) (disch := omega) only [push_cast, ↓wr_cons, ↓wr_nil, ↓wo_callf, Nat.reduceLT, Nat.reduceEqDiff, ↓reduceIte, Nat.reduceBEq, hal, g0, cj, wp_done, ↓set_sorti, id_eq]
      ·exact ⟨rfl, rfl⟩
     ·exact ⟨rfl, rfl⟩
    ·exact ⟨rfl, rfl⟩
   ·apply wp_both
    ·rw [wp_pick rfl]
     simp only [opsOf, List.filterMap_cons, List.filterMap_nil, List.getElem?_toArray, List.getElem?_cons_zero, List.getElem?_cons_succ]
     simp (maxSteps := 1000000) (disch := omega) only [push_cast, ↓wr_cons, ↓wr_nil, Nat.reduceLT, Nat.reduceEqDiff, ↓reduceIte, hal, g0, ↓set_sorti, id_eq]
     apply wp_both
     ·rw [wp_pick rfl]
      simp only [opsOf, List.filterMap_cons, List.filterMap_nil, List.getElem?_toArray, List.getElem?_cons_zero, List.getElem?_cons_succ]
      simp (maxSteps := 1000000) (disch := omega) only [push_cast, ↓wr_cons, ↓wr_nil, ↓wo_callf, Nat.reduceLT, Nat.reduceEqDiff, ↓reduceIte, Nat.reduceBEq, hal, g2, cj, wp_done, ↓set_sorti, id_eq]
      exact ⟨rfl, rfl⟩
     ·apply wp_both
      ·rw [wp_pick rfl]
       simp only [opsOf, List.filterMap_cons, List.filterMap_nil, List.getElem?_toArray, List.getElem?_cons_zero, List.getElem?_cons_succ]
       simp (maxSteps := 1000000) (disch := omega) only [push_cast, ↓wr_cons, ↓wr_nil, Nat.reduceLT, Nat.reduceEqDiff, ↓reduceIte, hal, g0, ↓set_sorti, id_eq]
       apply wp_both
       ·rw [wp_pick rfl]
        simp only [opsOf, List.filterMap_cons, List.filterMap_nil, List.getElem?_toArray, List.getElem?_cons_zero, List.getElem?_cons_succ]
        simp (maxSteps := 1000000) (disch := omega) only [push_cast, ↓wr_cons, ↓wr_nil, ↓wo_callf, Nat.reduceLT, Nat.reduceEqDiff, ↓reduceIte, Nat.reduceBEq, hal, g2, cj, wp_done, ↓set_sorti, id_eq]
        exact ⟨rfl, rfl⟩
       ·rw [wp_pick rfl]
        simp only [opsOf, List.filterMap_cons, List.filterMap_nil, List.getElem?_toArray, List.getElem?_cons_zero, List.getElem?_cons_succ]
        simp (maxSteps := 1000000) (disch := omega) only [push_cast, ↓wr_cons, ↓wr_nil, ↓wo_callf, Nat.reduceLT, Nat.reduceEqDiff, ↓reduceIte, Nat.reduceBEq, hal, g0, cj, wp_done, ↓set_sorti, id_eq]
       ·exact ⟨rfl, rfl⟩
      ·rw [wp_pick rfl]
       simp only [opsOf, List.filterMap_cons, List.filterMap_nil, List.getElem?_toArray, List.getElem?_cons_zero, List.getElem?_cons_succ]
       simp (maxSteps := 1000000) (disch := omega) only [push_cast, ↓wr_cons, ↓wr_nil, Nat.reduceLT, ↓reduceIte, hal, g0]
       apply wp_both
       ·rw [wp_pick rfl]
        simp only [opsOf, List.filterMap_cons, List.filterMap_nil, List.getElem?_toArray, List.getElem?_cons_zero, List.getElem?_cons_succ]
        simp (maxSteps := 1000000) (disch := omega) only [push_cast, ↓wr_cons, ↓wr_nil, ↓wo_callf, Nat.reduceLT, Nat.reduceEqDiff, ↓reduceIte, Nat.reduceBEq, hal, g2, cj, wp_done, ↓set_sorti, id_eq]
        exact ⟨rfl, rfl⟩
       ·rw [wp_pick rfl]
        simp only [opsOf, List.filterMap_cons, List.filterMap_nil, List.getElem?_toArray, List.getElem?_cons_zero, List.getElem?_cons_succ]
        simp (maxSteps := 1000000) (disch := omega) only [push_cast, ↓wr_cons, ↓wr_nil, ↓wo_callf, Nat.reduceLT, Nat.reduceEqDiff, ↓reduceIte, Nat.reduceBEq, hal, g0, cj, wp_done, ↓set_sorti, id_eq]
       ·exact ⟨rfl, rfl⟩
      ·exact ⟨rfl, rfl⟩
     ·exact ⟨rfl, rfl⟩
    ·rw [wp_pick rfl]
     simp only [opsOf, List.filterMap_cons, List.filterMap_nil, List.getElem?_toArray, List.getElem?_cons_zero, List.getElem?_cons_succ]
     simp (maxSteps := 1000000) (disch := omega) only [push_cast, ↓wr_cons, ↓wr_nil, Nat.reduceLT, ↓reduceIte, hal, g0]
     apply wp_both
     ·rw [wp_pick rfl]
      simp only [opsOf, List.filterMap_cons, List.filterMap_nil, List.getElem?_toArray, List.getElem?_cons_zero, List.getElem?_cons_succ]
      simp (maxSteps := 1000000) (disch := omega) only [push_cast, ↓wr_cons, ↓wr_nil, ↓wo_callf, Nat.reduceLT, Nat.reduceEqDiff, ↓reduceIte, Nat.reduceBEq, hal, g2, cj, wp_done, ↓set_sorti, id_eq]
      exact ⟨rfl, rfl⟩
     ·apply wp_both
      ·rw [wp_pick rfl]
       simp only [opsOf, List.filterMap_cons, List.filterMap_nil, List.getElem?_toArray, List.getElem?_cons_zero, List.getElem?_cons_succ]
       simp (maxSteps := 1000000) (disch := omega) only [push_cast, ↓wr_cons, ↓wr_nil, Nat.reduceLT, Nat.reduceEqDiff, ↓reduceIte, hal, g0, ↓set_sorti, id_eq]
       apply wp_both
       ·rw [wp_pick rfl]
        simp only [opsOf, List.filterMap_cons, List.filterMap_nil, List.getElem?_toArray, List.getElem?_cons_zero, List.getElem?_cons_succ]
        simp (maxSteps := 1000000) (disch := omega) only [push_cast, ↓wr_cons, ↓wr_nil, ↓wo_callf, Nat.reduceLT, Nat.reduceEqDiff, ↓reduceIte, Nat.reduceBEq, hal, g2, cj, wp_done, ↓set_sorti, id_eq]
        exact ⟨rfl, rfl⟩
       ·rw [wp_pick rfl]
        simp only [opsOf, List.filterMap_cons, List.filterMap_nil, List.getElem?_toArray, List.getElem?_cons_zero, List.getElem?_cons_succ]
        simp (maxSteps := 1000000) (disch := omega) only [push_cast, ↓wr_cons, ↓wr_nil, ↓wo_callf, Nat.reduceLT, Nat.reduceEqDiff, ↓reduceIte, Nat.reduceBEq, hal, g0, cj, wp_done, ↓set_sorti, id_eq]
       ·exact ⟨rfl, rfl⟩
      ·rw [wp_pick rfl]
       simp only [opsOf, List.filterMap_cons, List.filterMap_nil, List.getElem?_toArray, List.getElem?_cons_zero, List.getElem?_cons_succ]
       simp (maxSteps := 1000000) (disch := omega) only [push_cast, ↓wr_cons, ↓wr_nil, Nat.reduceLT, Nat.reduceEqDiff, ↓reduceIte, hal, g0, ↓set_sorti, id_eq]
       apply wp_both
       ·rw [wp_pick rfl]
        simp only [opsOf, List.filterMap_cons, List.filterMap_nil, List.getElem?_toArray, List.getElem?_cons_zero, List.getElem?_cons_succ]
        simp (maxSteps := 1000000) (disch := omega) only [push_cast, ↓wr_cons, ↓wr_nil, ↓wo_callf, Nat.reduceLT, Nat.reduceEqDiff, ↓reduceIte, Nat.reduceBEq, hal, g2, cj, wp_done, ↓set_sorti, id_eq]
        exact ⟨rfl, rfl⟩
       ·rw [wp_pick rfl]
        simp only [opsOf, List.filterMap_cons, List.filterMap_nil, List.getElem?_toArray, List.getElem?_cons_zero, List.getElem?_cons_succ]
        simp (maxSteps := 1000000) (disch := omega) only [push_cast, ↓wr_cons, ↓wr_nil, ↓wo_callf, Nat.reduceLT, Nat.reduceEqDiff, ↓reduceIte, Nat.reduceBEq, hal, g0, cj, wp_done, ↓set_sorti, id_eq]
       ·exact ⟨rfl, rfl⟩
      ·exact ⟨rfl, rfl⟩
     ·exact ⟨rfl, rfl⟩
    ·exact ⟨rfl, rfl⟩
   ·exact ⟨rfl, rfl⟩
  rw [wp_pick rfl]
  simp only [opsOf, List.filterMap_cons, List.filterMap_nil, List.getElem?_toArray, List.getElem?_cons_zero, List.getElem?_cons_succ]
  simp (maxSteps := 1000000) (disch := omega) only [push_cast, ↓wr_cons, ↓wr_nil, ↓wo_callf, Nat.reduceLT, Nat.reduceEqDiff, ↓reduceIte, Nat.reduceBEq, hal, cr, beq_self_eq_true, wp_done]
 clear hal h0 h1 h2 h3 h9 h20 h140 a
 rintro a V ⟨rfl, hal, h10⟩
 simp (maxSteps := 1000000) (disch := omega) only [push_cast, ↓wc_ret, h10, Tryz.f12]
 exact fin
theorem does4n_d {nn : Int} {x : Wt} {eq : ByteArray} (hx : x.legs = []) (hn : 1500 ≤ n) (h : St S lab k kr p r A) (inv : Inv cfgs c A) (hc : c ≤ 60) (he : Evt.Ok ⟨4, nn, x, eq⟩) (hls : cfgs.length ≤ 100) :
  WO (dcall E (n + 1) 12 [.loc k 0 0, .loc kr 0 0, .loc p 0 0, .loc r 0 0, .agg (Evt.enc ⟨4, nn, x, eq⟩)] S) fun d T => d = .bool true ∧ ∃ lab', St T lab' k kr p r (stepF A ⟨4, nn, x, eq⟩) := by
 obtain ⟨S1, hS1⟩ : ∃ S1, S1 = S ++ [Ob.row 8 [Evt.enc ⟨4, nn, x, eq⟩]] := ⟨_, rfl⟩
 have g0 : S1[S.length]? = some (.row 8 [Evt.enc ⟨4, nn, x, eq⟩]) := by rw [hS1]; exact get_end
 have hf := h.ss.1
 have l0 : lab S.length = [] := hf _ (Nat.le_refl _)
 have h1s : St S1 lab k kr p r A := by rw [hS1]; exact h.push _
 have hf1 := h1s.ss.1
 have hln := inv.n
 have hlm := inv.m
 have fin : St S1 lab k kr p r (stepF A ⟨4, nn, x, eq⟩) := by
  rw [show stepF A ⟨4, nn, x, eq⟩ = A by simp [stepF, hx]]
  exact h1s
 have fin := (⟨_, fin⟩ : ∃ lab', St _ lab' k kr p r (stepF A ⟨4, nn, x, eq⟩))
 generalize stepF A ⟨4, nn, x, eq⟩ = A' at *
 refine wo_dcall Tryz.func12 rfl (by decide) rfl 165 rfl (fun a hal ha => ?_)
 have h0 : a[0]? = some (.loc k 0 0) := ha 0 (by simp)
 have h1 : a[1]? = some (.loc kr 0 0) := ha 1 (by simp)
 have h2 : a[2]? = some (.loc p 0 0) := ha 2 (by simp)
 have h3 : a[3]? = some (.loc r 0 0) := ha 3 (by simp)
 have h4 : a[4]? = some (.agg (Evt.enc ⟨4, nn, x, eq⟩)) := ha 4 (by simp)
 clear ha
 simp only [Evt.enc] at h4 g0 hS1
 refine wc_scut (fun a V => V = S1 ∧ a.length = 165 ∧ a[0]? = some (.loc k 0 0) ∧ a[1]? = some (.loc kr 0 0) ∧ a[2]? = some (.loc p 0 0) ∧ a[3]? = some (.loc r 0 0) ∧ a[9]? = some (.loc S.length 0 0)) ?_ ?_
 ·simp (maxSteps := 1000000) (disch := omega) only [push_cast, ↓wc_region, ↓wr_cons, ↓wr_nil, Nat.reduceAdd, Nat.reduceMul, Nat.reduceLT, Nat.reduceEqDiff, ↓reduceIte, Nat.reduceBEq, reduceCtorEq, hal, h0, h1, h2, h3, h4]
  exact hS1.symm
 clear hal h0 h1 h2 h3 h4 a
 rintro a V ⟨rfl, hal, h0, h1, h2, h3, h9⟩
 rw [wc_seq]
 refine wc_scut (fun a W => W = V ∧ a.length = 165 ∧ a[0]? = some (.loc k 0 0) ∧ a[1]? = some (.loc kr 0 0) ∧ a[2]? = some (.loc p 0 0) ∧ a[3]? = some (.loc r 0 0) ∧ a[9]? = some (.loc S.length 0 0) ∧ a[20]? = some (.int .i64 4)) ?_ ?_
 ·simp (maxSteps := 1000000) (disch := omega) only [push_cast, ↓wc_region, ↓wr_cons, ↓wr_nil, Nat.reduceAdd, Nat.reduceMul, Nat.reduceLT, Nat.reduceEqDiff, ↓reduceIte, Nat.reduceBEq, reduceCtorEq, hal, h0, h1, h2, h3, h9, g0]
 clear hal h0 h1 h2 h3 h9 a
 rintro a W ⟨rfl, hal, h0, h1, h2, h3, h9, h20⟩
 rw [wc_block]
 refine wc_scut (fun a V => V = W ∧ a.length = 165 ∧ a[0]? = some (.loc k 0 0) ∧ a[1]? = some (.loc kr 0 0) ∧ a[2]? = some (.loc p 0 0) ∧ a[3]? = some (.loc r 0 0) ∧ a[9]? = some (.loc S.length 0 0) ∧ a[20]? = some (.int .i64 4) ∧ a[21]? = some (.bool false)) ?_ ?_
 ·simp (maxSteps := 1000000) (disch := omega) only [push_cast, ↓wc_region, ↓wr_cons, ↓wr_nil, Nat.reduceAdd, Nat.reduceMul, Nat.reduceLT, Nat.reduceEqDiff, Int.reduceEq, ↓reduceIte, Nat.reduceBEq, reduceCtorEq, hal, h0, h1, h2, h3, h9, h20]
 clear hal h0 h1 h2 h3 h9 h20 a
 rintro a W ⟨rfl, hal, h0, h1, h2, h3, h9, h20, h21⟩
 refine wc_tmpF h21 ?_
 refine wc_scut (fun a V => V = W ∧ a.length = 165 ∧ a[0]? = some (.loc k 0 0) ∧ a[1]? = some (.loc kr 0 0) ∧ a[2]? = some (.loc p 0 0) ∧ a[3]? = some (.loc r 0 0) ∧ a[9]? = some (.loc S.length 0 0) ∧ a[20]? = some (.int .i64 4) ∧ a[32]? = some (.bool false)) ?_ ?_
 ·simp (maxSteps := 1000000) (disch := omega) only [push_cast, ↓wc_region, ↓wr_cons, ↓wr_nil, Nat.reduceAdd, Nat.reduceMul, Nat.reduceLT, Nat.reduceEqDiff, Int.reduceEq, ↓reduceIte, Nat.reduceBEq, reduceCtorEq, hal, h0, h1, h2, h3, h9, h20]
 clear hal h0 h1 h2 h3 h9 h20 h21 a
 rintro a W ⟨rfl, hal, h0, h1, h2, h3, h9, h20, h32⟩
 refine wc_tmpF h32 ?_
 refine wc_scut (fun a V => V = W ∧ a.length = 165 ∧ a[0]? = some (.loc k 0 0) ∧ a[1]? = some (.loc kr 0 0) ∧ a[2]? = some (.loc p 0 0) ∧ a[3]? = some (.loc r 0 0) ∧ a[9]? = some (.loc S.length 0 0) ∧ a[20]? = some (.int .i64 4) ∧ a[56]? = some (.bool false)) ?_ ?_
 ·simp (maxSteps := 1000000) (disch := omega) only [push_cast, ↓wc_region, ↓wr_cons, ↓wr_nil, Nat.reduceAdd, Nat.reduceMul, Nat.reduceLT, Nat.reduceEqDiff, Int.reduceEq, ↓reduceIte, Nat.reduceBEq, reduceCtorEq, hal, h0, h1, h2, h3, h9, h20]
 clear hal h0 h1 h2 h3 h9 h20 h32 a
 rintro a W ⟨rfl, hal, h0, h1, h2, h3, h9, h20, h56⟩
 refine wc_tmpF h56 ?_
 refine wc_scut (fun a V => V = W ∧ a.length = 165 ∧ a[0]? = some (.loc k 0 0) ∧ a[1]? = some (.loc kr 0 0) ∧ a[2]? = some (.loc p 0 0) ∧ a[3]? = some (.loc r 0 0) ∧ a[9]? = some (.loc S.length 0 0) ∧ a[20]? = some (.int .i64 4) ∧ a[78]? = some (.bool false)) ?_ ?_
 ·simp (maxSteps := 1000000) (disch := omega) only [push_cast, ↓wc_region, ↓wr_cons, ↓wr_nil, Nat.reduceAdd, Nat.reduceMul, Nat.reduceLT, Nat.reduceEqDiff, Int.reduceEq, ↓reduceIte, Nat.reduceBEq, reduceCtorEq, hal, h0, h1, h2, h3, h9, h20]
 clear hal h0 h1 h2 h3 h9 h20 h56 a
 rintro a W ⟨rfl, hal, h0, h1, h2, h3, h9, h20, h78⟩
 refine wc_tmpF h78 ?_
 refine wc_scut (fun a V => V = W ∧ a.length = 165 ∧ a[0]? = some (.loc k 0 0) ∧ a[1]? = some (.loc kr 0 0) ∧ a[2]? = some (.loc p 0 0) ∧ a[3]? = some (.loc r 0 0) ∧ a[9]? = some (.loc S.length 0 0) ∧ a[20]? = some (.int .i64 4) ∧ a[87]? = some (.bool true)) ?_ ?_
 ·simp (maxSteps := 1000000) (disch := omega) only [push_cast, ↓wc_region, ↓wr_cons, ↓wr_nil, Nat.reduceAdd, Nat.reduceMul, Nat.reduceLT, Nat.reduceEqDiff, ↓reduceIte, Nat.reduceBEq, reduceCtorEq, hal, h0, h1, h2, h3, h9, h20]
 clear hal h0 h1 h2 h3 h9 h20 h78 a
 rintro a W ⟨rfl, hal, h0, h1, h2, h3, h9, h20, h87⟩
 refine wc_tmpT h87 ?_
 refine wc_scut (fun a V => V = W ∧ a.length = 165 ∧ a[10]? = some (.bool true)) ?_ ?_
 ·rw [wc_plan (p := (steps [0, 1, 2, 3, 4, 5, 6, 7, 8, 9, 10, 11, 12, 13, 15, 16, 17, 21] (.both (steps [14, 18, 19, 20, 22] .done) (.both (steps [18] (.both (steps [14, 19, 20, 22] .done) (.both (steps [19] (.both (steps [14, 20, 22] .done) (.both (steps [20] (.both (steps [14, 22] .done) (steps [22, 14] .done))) (steps [22] (.both (steps [14, 20] .done) (steps [20, 14] .done)))))) (steps [22] (.both (steps [14, 19, 20] .done) (steps [19] (.both (steps [14, 20] .done) (steps [20, 14] .done)))))))) (steps [22] (.both (steps [14, 18, 19, 20] .done) (steps [18] (.both (steps [14, 19, 20] .done) (steps [19] (.both (steps [14, 20] .done) (steps [20, 14] .done)))))))))).andThen (steps [23, 24, 25, 26] .done)) rfl]
  apply wp_then
  rw [wp_pick rfl]
  simp only [opsOf, List.filterMap_cons, List.filterMap_nil, List.getElem?_toArray, List.getElem?_cons_zero, List.getElem?_cons_succ]
  simp (maxSteps := 1000000) (disch := omega) only [push_cast, ↓wr_cons, ↓wr_consgL, ↓wr_nil, Nat.reduceAdd, Nat.reduceLT, Nat.reduceEqDiff, ↓reduceIte, hal, h9, g0, hx, List.map_nil, Int.natCast_zero]
  apply wp_both
  ·rw [wp_pick rfl]
   simp only [opsOf, List.filterMap_cons, List.filterMap_nil, List.getElem?_toArray, List.getElem?_cons_zero, List.getElem?_cons_succ]
   simp (maxSteps := 1000000) (disch := omega) only [push_cast, ↓wr_consgL, ↓wr_nil, Nat.reduceLT, Nat.reduceEqDiff, ↓reduceIte, hal, wp_done, ↓set_sorti, id_eq]
   exact ⟨rfl, rfl⟩
  ·apply wp_both
   ·rw [wp_pick rfl]
    simp only [opsOf, List.filterMap_cons, List.filterMap_nil, List.getElem?_toArray, List.getElem?_cons_zero, List.getElem?_cons_succ]
    simp (maxSteps := 1000000) (disch := omega) only [push_cast, ↓wr_consgL, ↓wr_nil, Nat.reduceLT, Nat.reduceEqDiff, ↓reduceIte, hal, ↓set_sorti, id_eq]
    apply wp_both
    ·rw [wp_pick rfl]
     simp only [opsOf, List.filterMap_cons, List.filterMap_nil, List.getElem?_toArray, List.getElem?_cons_zero, List.getElem?_cons_succ]
     simp (maxSteps := 1000000) (disch := omega) only [push_cast, ↓wr_consgL, ↓wr_nil, Nat.reduceLT, Nat.reduceEqDiff, ↓reduceIte, hal, wp_done, ↓set_sorti, id_eq]
     exact ⟨rfl, rfl⟩
    ·apply wp_both
     ·rw [wp_pick rfl]
      simp only [opsOf, List.filterMap_cons, List.filterMap_nil, List.getElem?_toArray, List.getElem?_cons_zero, List.getElem?_cons_succ]
      simp (maxSteps := 1000000) (disch := omega) only [push_cast, ↓wr_consgL, ↓wr_nil, Nat.reduceLT, Nat.reduceEqDiff, ↓reduceIte, hal, ↓set_sorti, id_eq]
      apply wp_both
      ·rw [wp_pick rfl]
       simp only [opsOf, List.filterMap_cons, List.filterMap_nil, List.getElem?_toArray, List.getElem?_cons_zero, List.getElem?_cons_succ]
       simp (maxSteps := 1000000) (disch := omega) only [push_cast, ↓wr_consgL, ↓wr_nil, Nat.reduceLT, Nat.reduceEqDiff, ↓reduceIte, hal, wp_done, ↓set_sorti, id_eq]
       exact ⟨rfl, rfl⟩
      ·apply wp_both
       ·rw [wp_pick rfl]
        simp only [opsOf, List.filterMap_cons, List.filterMap_nil, List.getElem?_toArray, List.getElem?_cons_zero, List.getElem?_cons_succ]
        simp (maxSteps := 1000000) (disch := omega) only [push_cast, ↓wr_consgL, ↓wr_nil, Nat.reduceLT, Nat.reduceEqDiff, ↓reduceIte, hal, ↓set_sorti, id_eq]
        apply wp_both
        ·rw [wp_pick rfl]
         simp only [opsOf, List.filterMap_cons, List.filterMap_nil, List.getElem?_toArray, List.getElem?_cons_zero, List.getElem?_cons_succ]
         simp (maxSteps := 1000000) (disch := omega) only [push_cast, ↓wr_consgL, ↓wr_nil, Nat.reduceLT, Nat.reduceEqDiff, ↓reduceIte, hal, wp_done, ↓set_sorti, id_eq]
         exact ⟨rfl, rfl⟩
        ·rw [wp_pick rfl]
         simp only [opsOf, List.filterMap_cons, List.filterMap_nil, List.getElem?_toArray, List.getElem?_cons_zero, List.getElem?_cons_succ]
         simp (maxSteps := 1000000) (disch := omega) only [push_cast, ↓wr_consgL, ↓wr_nil, Nat.reduceLT, Nat.reduceEqDiff, ↓reduceIte, hal, wp_done, ↓set_sorti, id_eq]
        ·exact ⟨rfl, rfl⟩
       ·rw [wp_pick rfl]
        simp only [opsOf, List.filterMap_cons, List.filterMap_nil, List.getElem?_toArray, List.getElem?_cons_zero, List.getElem?_cons_succ]
        simp (maxSteps := 1000000) (disch := omega) only [push_cast, ↓wr_consgL, ↓wr_nil, Nat.reduceLT, Nat.reduceEqDiff, ↓reduceIte, hal]
        apply wp_both
        ·rw [wp_pick rfl]
         simp only [opsOf, List.filterMap_cons, List.filterMap_nil, List.getElem?_toArray, List.getElem?_cons_zero, List.getElem?_cons_succ]
         simp (maxSteps := 1000000) (disch := omega) only [push_cast, ↓wr_consgL, ↓wr_nil, Nat.reduceLT, Nat.reduceEqDiff, ↓reduceIte, hal, wp_done, ↓set_sorti, id_eq]
         exact ⟨rfl, rfl⟩
        ·rw [wp_pick rfl]
         simp only [opsOf, List.filterMap_cons, List.filterMap_nil, List.getElem?_toArray, List.getElem?_cons_zero, List.getElem?_cons_succ]
         simp (maxSteps := 1000000) (disch := omega) only [push_cast, ↓wr_consgL, ↓wr_nil, Nat.reduceLT, Nat.reduceEqDiff, ↓reduceIte, hal, wp_done, ↓set_sorti, id_eq]
        ·exact ⟨rfl, rfl⟩
       ·exact ⟨rfl, rfl⟩
      ·exact ⟨rfl, rfl⟩
     ·rw [wp_pick rfl]
      simp only [opsOf, List.filterMap_cons, List.filterMap_nil, List.getElem?_toArray, List.getElem?_cons_zero, List.getElem?_cons_succ]
      simp (maxSteps := 1000000) (disch := omega) only [push_cast, ↓wr_consgL, ↓wr_nil, Nat.reduceLT, Nat.reduceEqDiff, ↓reduceIte, hal]
      apply wp_both
      ·rw [wp_pick rfl]
       simp only [opsOf, List.filterMap_cons, List.filterMap_nil, List.getElem?_toArray, List.getElem?_cons_zero, List.getElem?_cons_succ]
       simp (maxSteps := 1000000) (disch := omega) only [push_cast, ↓wr_consgL, ↓wr_nil, Nat.reduceLT, Nat.reduceEqDiff, ↓reduceIte, hal, wp_done, ↓set_sorti, id_eq]
       exact ⟨rfl, rfl⟩
      ·rw [wp_pick rfl]
       simp only [opsOf, List.filterMap_cons, List.filterMap_nil, List.getElem?_toArray, List.getElem?_cons_zero, List.getElem?_cons_succ]
       simp (maxSteps := 1000000) (disch := omega) only [push_cast, ↓wr_consgL, ↓wr_nil, Nat.reduceLT, Nat.reduceEqDiff, ↓reduceIte, hal, ↓set_sorti, id_eq]
       apply wp_both
       ·rw [wp_pick rfl]
        simp only [opsOf, List.filterMap_cons, List.filterMap_nil, List.getElem?_toArray, List.getElem?_cons_zero, List.getElem?_cons_succ]
        simp (maxSteps := 1000000) (disch := omega) only [push_cast, ↓wr_consgL, ↓wr_nil, Nat.reduceLT, Nat.reduceEqDiff, ↓reduceIte, hal, wp_done, ↓set_sorti, id_eq]
        exact ⟨rfl, rfl⟩
       ·rw [wp_pick rfl]
        simp only [opsOf, List.filterMap_cons, List.filterMap_nil, List.getElem?_toArray, List.getElem?_cons_zero, List.getElem?_cons_succ]
        simp (maxSteps := 1000000) (disch := omega) only [push_cast, ↓wr_consgL, ↓wr_nil, Nat.reduceLT, Nat.reduceEqDiff, ↓reduceIte, hal, wp_done, ↓set_sorti, id_eq]
       ·exact ⟨rfl, rfl⟩
      ·exact ⟨rfl, rfl⟩
     ·exact ⟨rfl, rfl⟩
    ·exact ⟨rfl, rfl⟩
   ·rw [wp_pick rfl]
    simp only [opsOf, List.filterMap_cons, List.filterMap_nil, List.getElem?_toArray, List.getElem?_cons_zero, List.getElem?_cons_succ]
    simp (maxSteps := 1000000) (disch := omega) only [push_cast, ↓wr_consgL, ↓wr_nil, Nat.reduceLT, Nat.reduceEqDiff, ↓reduceIte, hal]
    apply wp_both
    ·rw [wp_pick rfl]
     simp only [opsOf, List.filterMap_cons, List.filterMap_nil, List.getElem?_toArray, List.getElem?_cons_zero, List.getElem?_cons_succ]
     simp (maxSteps := 1000000) (disch := omega) only [push_cast, ↓wr_consgL, ↓wr_nil, Nat.reduceLT, Nat.reduceEqDiff, ↓reduceIte, hal, wp_done, ↓set_sorti, id_eq]
     exact ⟨rfl, rfl⟩
    ·rw [wp_pick rfl]
     simp only [opsOf, List.filterMap_cons, List.filterMap_nil, List.getElem?_toArray, List.getElem?_cons_zero, List.getElem?_cons_succ]
     simp (maxSteps := 1000000) (disch := omega) only [push_cast, ↓wr_consgL, ↓wr_nil, Nat.reduceLT, Nat.reduceEqDiff, ↓reduceIte, hal, ↓set_sorti, id_eq]
     apply wp_both
     ·rw [wp_pick rfl]
      simp only [opsOf, List.filterMap_cons, List.filterMap_nil, List.getElem?_toArray, List.getElem?_cons_zero, List.getElem?_cons_succ]
      simp (maxSteps := 1000000) (disch := omega) only [push_cast, ↓wr_consgL, ↓wr_nil, Nat.reduceLT, Nat.reduceEqDiff, ↓reduceIte, hal, wp_done, ↓set_sorti, id_eq]
      exact ⟨rfl, rfl⟩
     ·rw [wp_pick rfl]
      simp only [opsOf, List.filterMap_cons, List.filterMap_nil, List.getElem?_toArray, List.getElem?_cons_zero, List.getElem?_cons_succ]
      simp (maxSteps := 1000000) (disch := omega) only [push_cast, ↓wr_consgL, ↓wr_nil, Nat.reduceLT, Nat.reduceEqDiff, ↓reduceIte, hal, ↓set_sorti, id_eq]
      apply wp_both
      ·rw [wp_pick rfl]
       simp only [opsOf, List.filterMap_cons, List.filterMap_nil, List.getElem?_toArray, List.getElem?_cons_zero, List.getElem?_cons_succ]
       simp (maxSteps := 1000000) (disch := omega) only [push_cast, ↓wr_consgL, ↓wr_nil, Nat.reduceLT, Nat.reduceEqDiff, ↓reduceIte, hal, wp_done, ↓set_sorti, id_eq]
       exact ⟨rfl, rfl⟩
      ·rw [wp_pick rfl]
       simp only [opsOf, List.filterMap_cons, List.filterMap_nil, List.getElem?_toArray, List.getElem?_cons_zero, List.getElem?_cons_succ]
       simp (maxSteps := 1000000) (disch := omega) only [push_cast, ↓wr_consgL, ↓wr_nil, Nat.reduceLT, Nat.reduceEqDiff, ↓reduceIte, hal, wp_done, ↓set_sorti, id_eq]
      ·exact ⟨rfl, rfl⟩
     ·exact ⟨rfl, rfl⟩
    ·exact ⟨rfl, rfl⟩
   ·exact ⟨rfl, rfl⟩
  rw [wp_pick rfl]
  simp only [opsOf, List.filterMap_cons, List.filterMap_nil, List.getElem?_toArray, List.getElem?_cons_zero, List.getElem?_cons_succ]
  simp (maxSteps := 1000000) (disch := omega) only [push_cast, ↓wr_cons, ↓wr_consgL, ↓wr_nil, ↓wo_pickL, Nat.reduceLT, Nat.reduceEqDiff, ↓reduceIte, hal, wp_done]
 clear hal h0 h1 h2 h3 h9 h20 h87 a
 rintro a V ⟨rfl, hal, h10⟩
 simp (maxSteps := 1000000) (disch := omega) only [push_cast, ↓wc_ret, h10, Tryz.f12]
 exact fin
theorem does4c_d {nn : Int} {x : Wt} {eq : ByteArray} {w : Lid} {ws : List Lid} (hx : x.legs = w :: ws) (hn : 1500 ≤ n) (h : St S lab k kr p r A) (inv : Inv cfgs c A) (hc : c ≤ 60) (he : Evt.Ok ⟨4, nn, x, eq⟩) (hls : cfgs.length ≤ 100) :
  WO (dcall E (n + 1) 12 [.loc k 0 0, .loc kr 0 0, .loc p 0 0, .loc r 0 0, .agg (Evt.enc ⟨4, nn, x, eq⟩)] S) fun d T => d = .bool true ∧ ∃ lab', St T lab' k kr p r (stepF A ⟨4, nn, x, eq⟩) := by
 obtain ⟨S1, hS1⟩ : ∃ S1, S1 = S ++ [Ob.row 8 [Evt.enc ⟨4, nn, x, eq⟩]] := ⟨_, rfl⟩
 have g0 : S1[S.length]? = some (.row 8 [Evt.enc ⟨4, nn, x, eq⟩]) := by rw [hS1]; exact get_end
 have hf := h.ss.1
 have l0 : lab S.length = [] := hf _ (Nat.le_refl _)
 have h1s : St S1 lab k kr p r A := by rw [hS1]; exact h.push _
 have hf1 := h1s.ss.1
 have hln := inv.n
 have hlm := inv.m
 obtain ⟨T2, lab2, cj, ss2, s2⟩ := SOpen_c (n := n) (id := w) (by omega) h1s.ss (by rw [inv.l]; exact hls) inv.s.ok.cfgs (he.lid w (by dsimp only; rw [hx]; simp)) eq
 obtain ⟨_, T3, cr, rfl, lab3, rs3, s3⟩ := gen_of (n := n) (by omega) rfl (rsOpen_d (n := n - 1) (id := w) (by omega) (RAt.other h1s.rs s2 (by decide)) (by omega) (by rw [inv.l]; exact hls) inv.s.ok.cfgs eq)
 have g2 := (s2.free g0 l0).1
 have fin : St T3 lab3 k kr p r (stepF A ⟨4, nn, x, eq⟩) := by
  rw [show stepF A ⟨4, nn, x, eq⟩ = ((A.1.open w eq).2, A.2) by simp [stepF, hx]]
  exact ⟨(h1s.pl.keep (s2.keepO (by decide))).keep (s3.keepO (by decide)), (h1s.rl.keep (s2.keepO (by decide))).keep (s3.keepO (by decide)), ss2.other s3 (by decide), rs3⟩
 have hxl : ¬ ((x.legs.length : Int) = 0) := by rw [hx]; simp; omega
 have hx0 : x.legs[0]? = some w := by rw [hx]; rfl
 have hxp : 0 < x.legs.length := by rw [hx]; simp
 generalize (A.1.open w eq).1 = cd at *
 simp only [Lid.enc] at cj cr
 have fin := (⟨_, fin⟩ : ∃ lab', St _ lab' k kr p r (stepF A ⟨4, nn, x, eq⟩))
 generalize stepF A ⟨4, nn, x, eq⟩ = A' at *
 refine wo_dcall Tryz.func12 rfl (by decide) rfl 165 rfl (fun a hal ha => ?_)
 have h0 : a[0]? = some (.loc k 0 0) := ha 0 (by simp)
 have h1 : a[1]? = some (.loc kr 0 0) := ha 1 (by simp)
 have h2 : a[2]? = some (.loc p 0 0) := ha 2 (by simp)
 have h3 : a[3]? = some (.loc r 0 0) := ha 3 (by simp)
 have h4 : a[4]? = some (.agg (Evt.enc ⟨4, nn, x, eq⟩)) := ha 4 (by simp)
 clear ha
 simp only [Evt.enc] at h4 g0 hS1 g2
 refine wc_scut (fun a V => V = S1 ∧ a.length = 165 ∧ a[0]? = some (.loc k 0 0) ∧ a[1]? = some (.loc kr 0 0) ∧ a[2]? = some (.loc p 0 0) ∧ a[3]? = some (.loc r 0 0) ∧ a[9]? = some (.loc S.length 0 0)) ?_ ?_
 ·simp (maxSteps := 1000000) (disch := omega) only [push_cast, ↓wc_region, ↓wr_cons, ↓wr_nil, Nat.reduceAdd, Nat.reduceMul, Nat.reduceLT, Nat.reduceEqDiff, ↓reduceIte, Nat.reduceBEq, reduceCtorEq, hal, h0, h1, h2, h3, h4]
  exact hS1.symm
 clear hal h0 h1 h2 h3 h4 a
 rintro a V ⟨rfl, hal, h0, h1, h2, h3, h9⟩
 rw [wc_seq]
 refine wc_scut (fun a W => W = V ∧ a.length = 165 ∧ a[0]? = some (.loc k 0 0) ∧ a[1]? = some (.loc kr 0 0) ∧ a[2]? = some (.loc p 0 0) ∧ a[3]? = some (.loc r 0 0) ∧ a[9]? = some (.loc S.length 0 0) ∧ a[20]? = some (.int .i64 4)) ?_ ?_
 ·simp (maxSteps := 1000000) (disch := omega) only [push_cast, ↓wc_region, ↓wr_cons, ↓wr_nil, Nat.reduceAdd, Nat.reduceMul, Nat.reduceLT, Nat.reduceEqDiff, ↓reduceIte, Nat.reduceBEq, reduceCtorEq, hal, h0, h1, h2, h3, h9, g0]
 clear hal h0 h1 h2 h3 h9 a
 rintro a W ⟨rfl, hal, h0, h1, h2, h3, h9, h20⟩
 rw [wc_block]
 refine wc_scut (fun a V => V = W ∧ a.length = 165 ∧ a[0]? = some (.loc k 0 0) ∧ a[1]? = some (.loc kr 0 0) ∧ a[2]? = some (.loc p 0 0) ∧ a[3]? = some (.loc r 0 0) ∧ a[9]? = some (.loc S.length 0 0) ∧ a[20]? = some (.int .i64 4) ∧ a[21]? = some (.bool false)) ?_ ?_
 ·simp (maxSteps := 1000000) (disch := omega) only [push_cast, ↓wc_region, ↓wr_cons, ↓wr_nil, Nat.reduceAdd, Nat.reduceMul, Nat.reduceLT, Nat.reduceEqDiff, Int.reduceEq, ↓reduceIte, Nat.reduceBEq, reduceCtorEq, hal, h0, h1, h2, h3, h9, h20]
 clear hal h0 h1 h2 h3 h9 h20 a
 rintro a W ⟨rfl, hal, h0, h1, h2, h3, h9, h20, h21⟩
 refine wc_tmpF h21 ?_
 refine wc_scut (fun a V => V = W ∧ a.length = 165 ∧ a[0]? = some (.loc k 0 0) ∧ a[1]? = some (.loc kr 0 0) ∧ a[2]? = some (.loc p 0 0) ∧ a[3]? = some (.loc r 0 0) ∧ a[9]? = some (.loc S.length 0 0) ∧ a[20]? = some (.int .i64 4) ∧ a[32]? = some (.bool false)) ?_ ?_
 ·simp (maxSteps := 1000000) (disch := omega) only [push_cast, ↓wc_region, ↓wr_cons, ↓wr_nil, Nat.reduceAdd, Nat.reduceMul, Nat.reduceLT, Nat.reduceEqDiff, Int.reduceEq, ↓reduceIte, Nat.reduceBEq, reduceCtorEq, hal, h0, h1, h2, h3, h9, h20]
 clear hal h0 h1 h2 h3 h9 h20 h21 a
 rintro a W ⟨rfl, hal, h0, h1, h2, h3, h9, h20, h32⟩
 refine wc_tmpF h32 ?_
 refine wc_scut (fun a V => V = W ∧ a.length = 165 ∧ a[0]? = some (.loc k 0 0) ∧ a[1]? = some (.loc kr 0 0) ∧ a[2]? = some (.loc p 0 0) ∧ a[3]? = some (.loc r 0 0) ∧ a[9]? = some (.loc S.length 0 0) ∧ a[20]? = some (.int .i64 4) ∧ a[56]? = some (.bool false)) ?_ ?_
 ·simp (maxSteps := 1000000) (disch := omega) only [push_cast, ↓wc_region, ↓wr_cons, ↓wr_nil, Nat.reduceAdd, Nat.reduceMul, Nat.reduceLT, Nat.reduceEqDiff, Int.reduceEq, ↓reduceIte, Nat.reduceBEq, reduceCtorEq, hal, h0, h1, h2, h3, h9, h20]
 clear hal h0 h1 h2 h3 h9 h20 h32 a
 rintro a W ⟨rfl, hal, h0, h1, h2, h3, h9, h20, h56⟩
 refine wc_tmpF h56 ?_
 refine wc_scut (fun a V => V = W ∧ a.length = 165 ∧ a[0]? = some (.loc k 0 0) ∧ a[1]? = some (.loc kr 0 0) ∧ a[2]? = some (.loc p 0 0) ∧ a[3]? = some (.loc r 0 0) ∧ a[9]? = some (.loc S.length 0 0) ∧ a[20]? = some (.int .i64 4) ∧ a[78]? = some (.bool false)) ?_ ?_
 ·simp (maxSteps := 1000000) (disch := omega) only [push_cast, ↓wc_region, ↓wr_cons, ↓wr_nil, Nat.reduceAdd, Nat.reduceMul, Nat.reduceLT, Nat.reduceEqDiff, Int.reduceEq, ↓reduceIte, Nat.reduceBEq, reduceCtorEq, hal, h0, h1, h2, h3, h9, h20]
 clear hal h0 h1 h2 h3 h9 h20 h56 a
 rintro a W ⟨rfl, hal, h0, h1, h2, h3, h9, h20, h78⟩
 refine wc_tmpF h78 ?_
 refine wc_scut (fun a V => V = W ∧ a.length = 165 ∧ a[0]? = some (.loc k 0 0) ∧ a[1]? = some (.loc kr 0 0) ∧ a[2]? = some (.loc p 0 0) ∧ a[3]? = some (.loc r 0 0) ∧ a[9]? = some (.loc S.length 0 0) ∧ a[20]? = some (.int .i64 4) ∧ a[87]? = some (.bool true)) ?_ ?_
 ·simp (maxSteps := 1000000) (disch := omega) only [push_cast, ↓wc_region, ↓wr_cons, ↓wr_nil, Nat.reduceAdd, Nat.reduceMul, Nat.reduceLT, Nat.reduceEqDiff, ↓reduceIte, Nat.reduceBEq, reduceCtorEq, hal, h0, h1, h2, h3, h9, h20]
 clear hal h0 h1 h2 h3 h9 h20 h78 a
 rintro a W ⟨rfl, hal, h0, h1, h2, h3, h9, h20, h87⟩
 refine wc_tmpT h87 ?_
 refine wc_scut (fun a V => V = T3 ∧ a.length = 165 ∧ a[10]? = some (.bool true)) ?_ ?_
 ·rw [wc_plan (p := (steps [0, 1, 2, 3, 4, 5, 6, 7, 8, 9, 10, 11, 12, 13, 15, 16, 17, 21] (.both (steps [14, 18, 19, 20, 22] .done) (.both (steps [18] (.both (steps [14, 19, 20, 22] .done) (.both (steps [19] (.both (steps [14, 20, 22] .done) (.both (steps [20] (.both (steps [14, 22] .done) (steps [22, 14] .done))) (steps [22] (.both (steps [14, 20] .done) (steps [20, 14] .done)))))) (steps [22] (.both (steps [14, 19, 20] .done) (steps [19] (.both (steps [14, 20] .done) (steps [20, 14] .done)))))))) (steps [22] (.both (steps [14, 18, 19, 20] .done) (steps [18] (.both (steps [14, 19, 20] .done) (steps [19] (.both (steps [14, 20] .done) (steps [20, 14] .done)))))))))).andThen (steps [23, 24, 25, 26] .done)) rfl]
  apply wp_then
  rw [wp_pick rfl]
  simp only [opsOf, List.filterMap_cons, List.filterMap_nil, List.getElem?_toArray, List.getElem?_cons_zero, List.getElem?_cons_succ]
  simp (maxSteps := 1000000) (disch := omega) only [push_cast, ↓wr_cons, ↓wr_consgL, ↓wr_nil, Nat.reduceAdd, Nat.reduceLT, Nat.reduceLeDiff, Nat.reduceEqDiff, Int.reduceLE, ↓reduceIte, hal, h2, h3, h9, g0, hxl, hx0, Lid.enc]
  apply wp_both
  ·rw [wp_pick rfl]
   simp only [opsOf, List.filterMap_cons, List.filterMap_nil, List.getElem?_toArray, List.getElem?_cons_zero, List.getElem?_cons_succ]
   simp (maxSteps := 1000000) (disch := omega) only [push_cast, ↓wr_consgL, ↓wr_nil, ↓wo_callf, Nat.reduceAdd, Nat.reduceLT, Nat.reduceLeDiff, Nat.reduceEqDiff, Int.reduceLE, ↓reduceIte, Nat.reduceBEq, hal, g2, cj, hx0, Lid.enc, wp_done, ↓set_sorti, id_eq]
   exact ⟨rfl, rfl⟩
  ·apply wp_both
   ·rw [wp_pick rfl]
    simp only [opsOf, List.filterMap_cons, List.filterMap_nil, List.getElem?_toArray, List.getElem?_cons_zero, List.getElem?_cons_succ]
    simp (maxSteps := 1000000) (disch := omega) only [push_cast, ↓wr_consgL, ↓wr_nil, Nat.reduceLT, Nat.reduceEqDiff, ↓reduceIte, hal, g0, ↓set_sorti, id_eq]
    apply wp_both
    ·rw [wp_pick rfl]
     simp only [opsOf, List.filterMap_cons, List.filterMap_nil, List.getElem?_toArray, List.getElem?_cons_zero, List.getElem?_cons_succ]
     simp (maxSteps := 1000000) (disch := omega) only [push_cast, ↓wr_consgL, ↓wr_nil, ↓wo_callf, Nat.reduceAdd, Nat.reduceLT, Nat.reduceLeDiff, Nat.reduceEqDiff, Int.reduceLE, ↓reduceIte, Nat.reduceBEq, hal, g2, cj, hx0, Lid.enc, wp_done, ↓set_sorti, id_eq]
     exact ⟨rfl, rfl⟩
    ·apply wp_both
     ·rw [wp_pick rfl]
      simp only [opsOf, List.filterMap_cons, List.filterMap_nil, List.getElem?_toArray, List.getElem?_cons_zero, List.getElem?_cons_succ]
      simp (maxSteps := 1000000) (disch := omega) only [push_cast, ↓wr_consgL, ↓wr_nil, Nat.reduceLT, Nat.reduceEqDiff, Int.reduceLE, ↓reduceIte, hal, hx0, Lid.enc, ↓set_sorti, id_eq]
      apply wp_both
      ·rw [wp_pick rfl]
       simp only [opsOf, List.filterMap_cons, List.filterMap_nil, List.getElem?_toArray, List.getElem?_cons_zero, List.getElem?_cons_succ]
       simp (maxSteps := 1000000) (disch := omega) only [push_cast, ↓wr_consgL, ↓wr_nil, ↓wo_callf, Nat.reduceAdd, Nat.reduceLT, Nat.reduceLeDiff, Nat.reduceEqDiff, ↓reduceIte, Nat.reduceBEq, hal, g2, cj, wp_done, ↓set_sorti, id_eq]
       exact ⟨rfl, rfl⟩
      ·apply wp_both
       ·rw [wp_pick rfl]
        simp only [opsOf, List.filterMap_cons, List.filterMap_nil, List.getElem?_toArray, List.getElem?_cons_zero, List.getElem?_cons_succ]
        simp (maxSteps := 1000000) (disch := omega) only [push_cast, ↓wr_consgL, ↓wr_nil, Nat.reduceAdd, Nat.reduceLT, Nat.reduceLeDiff, Nat.reduceEqDiff, ↓reduceIte, hal, ↓set_sorti, id_eq]
        apply wp_both
        ·rw [wp_pick rfl]
         simp only [opsOf, List.filterMap_cons, List.filterMap_nil, List.getElem?_toArray, List.getElem?_cons_zero, List.getElem?_cons_succ]
         simp (maxSteps := 1000000) (disch := omega) only [push_cast, ↓wr_consgL, ↓wr_nil, ↓wo_callf, Nat.reduceLT, Nat.reduceEqDiff, ↓reduceIte, Nat.reduceBEq, hal, g2, cj, wp_done, ↓set_sorti, id_eq]
         exact ⟨rfl, rfl⟩
        ·rw [wp_pick rfl]
         simp only [opsOf, List.filterMap_cons, List.filterMap_nil, List.getElem?_toArray, List.getElem?_cons_zero, List.getElem?_cons_succ]
         simp (maxSteps := 1000000) (disch := omega) only [push_cast, ↓wr_consgL, ↓wr_nil, ↓wo_callf, Nat.reduceLT, Nat.reduceEqDiff, ↓reduceIte, Nat.reduceBEq, hal, g0, cj, wp_done, ↓set_sorti, id_eq]
        ·exact ⟨rfl, rfl⟩
       ·rw [wp_pick rfl]
        simp only [opsOf, List.filterMap_cons, List.filterMap_nil, List.getElem?_toArray, List.getElem?_cons_zero, List.getElem?_cons_succ]
        simp (maxSteps := 1000000) (disch := omega) only [push_cast, ↓wr_consgL, ↓wr_nil, Nat.reduceLT, Nat.reduceEqDiff, ↓reduceIte, hal, g0]
        apply wp_both
        ·rw [wp_pick rfl]
         simp only [opsOf, List.filterMap_cons, List.filterMap_nil, List.getElem?_toArray, List.getElem?_cons_zero, List.getElem?_cons_succ]
         simp (maxSteps := 1000000) (disch := omega) only [push_cast, ↓wr_consgL, ↓wr_nil, ↓wo_callf, Nat.reduceAdd, Nat.reduceLT, Nat.reduceLeDiff, Nat.reduceEqDiff, ↓reduceIte, Nat.reduceBEq, hal, cj, wp_done, ↓set_sorti, id_eq]
         exact ⟨rfl, rfl⟩
        ·rw [wp_pick rfl]
         simp only [opsOf, List.filterMap_cons, List.filterMap_nil, List.getElem?_toArray, List.getElem?_cons_zero, List.getElem?_cons_succ]
         simp (maxSteps := 1000000) (disch := omega) only [push_cast, ↓wr_consgL, ↓wr_nil, ↓wo_callf, Nat.reduceAdd, Nat.reduceLT, Nat.reduceLeDiff, Nat.reduceEqDiff, ↓reduceIte, Nat.reduceBEq, hal, cj, wp_done, ↓set_sorti, id_eq]
        ·exact ⟨rfl, rfl⟩
       ·exact ⟨rfl, rfl⟩
      ·exact ⟨rfl, rfl⟩
     ·rw [wp_pick rfl]
      simp only [opsOf, List.filterMap_cons, List.filterMap_nil, List.getElem?_toArray, List.getElem?_cons_zero, List.getElem?_cons_succ]
      simp (maxSteps := 1000000) (disch := omega) only [push_cast, ↓wr_consgL, ↓wr_nil, Nat.reduceLT, Nat.reduceEqDiff, ↓reduceIte, hal, g0]
      apply wp_both
      ·rw [wp_pick rfl]
       simp only [opsOf, List.filterMap_cons, List.filterMap_nil, List.getElem?_toArray, List.getElem?_cons_zero, List.getElem?_cons_succ]
       simp (maxSteps := 1000000) (disch := omega) only [push_cast, ↓wr_consgL, ↓wr_nil, ↓wo_callf, Nat.reduceAdd, Nat.reduceLT, Nat.reduceLeDiff, Nat.reduceEqDiff, Int.reduceLE, ↓reduceIte, Nat.reduceBEq, hal, cj, hx0, Lid.enc, wp_done, ↓set_sorti, id_eq]
       exact ⟨rfl, rfl⟩
      ·rw [wp_pick rfl]
       simp only [opsOf, List.filterMap_cons, List.filterMap_nil, List.getElem?_toArray, List.getElem?_cons_zero, List.getElem?_cons_succ]
       simp (maxSteps := 1000000) (disch := omega) only [push_cast, ↓wr_consgL, ↓wr_nil, Nat.reduceLT, Nat.reduceEqDiff, Int.reduceLE, ↓reduceIte, hal, hx0, Lid.enc, ↓set_sorti, id_eq]
       apply wp_both
       ·rw [wp_pick rfl]
        simp only [opsOf, List.filterMap_cons, List.filterMap_nil, List.getElem?_toArray, List.getElem?_cons_zero, List.getElem?_cons_succ]
        simp (maxSteps := 1000000) (disch := omega) only [push_cast, ↓wr_consgL, ↓wr_nil, ↓wo_callf, Nat.reduceAdd, Nat.reduceLT, Nat.reduceLeDiff, Nat.reduceEqDiff, ↓reduceIte, Nat.reduceBEq, hal, cj, wp_done, ↓set_sorti, id_eq]
        exact ⟨rfl, rfl⟩
       ·rw [wp_pick rfl]
        simp only [opsOf, List.filterMap_cons, List.filterMap_nil, List.getElem?_toArray, List.getElem?_cons_zero, List.getElem?_cons_succ]
        simp (maxSteps := 1000000) (disch := omega) only [push_cast, ↓wr_consgL, ↓wr_nil, ↓wo_callf, Nat.reduceAdd, Nat.reduceLT, Nat.reduceLeDiff, Nat.reduceEqDiff, ↓reduceIte, Nat.reduceBEq, hal, cj, wp_done, ↓set_sorti, id_eq]
       ·exact ⟨rfl, rfl⟩
      ·exact ⟨rfl, rfl⟩
     ·exact ⟨rfl, rfl⟩
    ·exact ⟨rfl, rfl⟩
   ·rw [wp_pick rfl]
    simp only [opsOf, List.filterMap_cons, List.filterMap_nil, List.getElem?_toArray, List.getElem?_cons_zero, List.getElem?_cons_succ]
    simp (maxSteps := 1000000) (disch := omega) only [push_cast, ↓wr_consgL, ↓wr_nil, Nat.reduceLT, Nat.reduceEqDiff, ↓reduceIte, hal, g0]
    apply wp_both
    ·rw [wp_pick rfl]
     simp only [opsOf, List.filterMap_cons, List.filterMap_nil, List.getElem?_toArray, List.getElem?_cons_zero, List.getElem?_cons_succ]
     simp (maxSteps := 1000000) (disch := omega) only [push_cast, ↓wr_consgL, ↓wr_nil, ↓wo_callf, Nat.reduceAdd, Nat.reduceLT, Nat.reduceLeDiff, Nat.reduceEqDiff, Int.reduceLE, ↓reduceIte, Nat.reduceBEq, hal, g2, cj, hx0, Lid.enc, wp_done, ↓set_sorti, id_eq]
     exact ⟨rfl, rfl⟩
    ·rw [wp_pick rfl]
     simp only [opsOf, List.filterMap_cons, List.filterMap_nil, List.getElem?_toArray, List.getElem?_cons_zero, List.getElem?_cons_succ]
     simp (maxSteps := 1000000) (disch := omega) only [push_cast, ↓wr_consgL, ↓wr_nil, Nat.reduceLT, Nat.reduceEqDiff, ↓reduceIte, hal, g0, ↓set_sorti, id_eq]
     apply wp_both
     ·rw [wp_pick rfl]
      simp only [opsOf, List.filterMap_cons, List.filterMap_nil, List.getElem?_toArray, List.getElem?_cons_zero, List.getElem?_cons_succ]
      simp (maxSteps := 1000000) (disch := omega) only [push_cast, ↓wr_consgL, ↓wr_nil, ↓wo_callf, Nat.reduceAdd, Nat.reduceLT, Nat.reduceLeDiff, Nat.reduceEqDiff, Int.reduceLE, ↓reduceIte, Nat.reduceBEq, hal, cj, hx0, Lid.enc, wp_done, ↓set_sorti, id_eq]
      exact ⟨rfl, rfl⟩
     ·rw [wp_pick rfl]
      simp only [opsOf, List.filterMap_cons, List.filterMap_nil, List.getElem?_toArray, List.getElem?_cons_zero, List.getElem?_cons_succ]
      simp (maxSteps := 1000000) (disch := omega) only [push_cast, ↓wr_consgL, ↓wr_nil, Nat.reduceLT, Nat.reduceEqDiff, Int.reduceLE, ↓reduceIte, hal, hx0, Lid.enc, ↓set_sorti, id_eq]
      apply wp_both
      ·rw [wp_pick rfl]
       simp only [opsOf, List.filterMap_cons, List.filterMap_nil, List.getElem?_toArray, List.getElem?_cons_zero, List.getElem?_cons_succ]
       simp (maxSteps := 1000000) (disch := omega) only [push_cast, ↓wr_consgL, ↓wr_nil, ↓wo_callf, Nat.reduceAdd, Nat.reduceLT, Nat.reduceLeDiff, Nat.reduceEqDiff, ↓reduceIte, Nat.reduceBEq, hal, cj, wp_done, ↓set_sorti, id_eq]
       exact ⟨rfl, rfl⟩
      ·rw [wp_pick rfl]
       simp only [opsOf, List.filterMap_cons, List.filterMap_nil, List.getElem?_toArray, List.getElem?_cons_zero, List.getElem?_cons_succ]
       simp (maxSteps := 1000000) (disch := omega) only [push_cast, ↓wr_consgL, ↓wr_nil, ↓wo_callf, Nat.reduceAdd, Nat.reduceLT, Nat.reduceLeDiff, Nat.reduceEqDiff, ↓reduceIte, Nat.reduceBEq, hal, cj, wp_done, ↓set_sorti, id_eq]
      ·exact ⟨rfl, rfl⟩
     ·exact ⟨rfl, rfl⟩
    ·exact ⟨rfl, rfl⟩
   ·exact ⟨rfl, rfl⟩
  rw [wp_pick rfl]
  simp only [opsOf, List.filterMap_cons, List.filterMap_nil, List.getElem?_toArray, List.getElem?_cons_zero, List.getElem?_cons_succ]
  simp (maxSteps := 1000000) (disch := omega) only [push_cast, ↓wr_cons, ↓wr_consgL, ↓wr_nil, ↓wo_pickL, ↓wo_callf, Nat.reduceLT, Nat.reduceEqDiff, ↓reduceIte, Nat.reduceBEq, hal, cr, beq_self_eq_true, wp_done]
 clear hal h0 h1 h2 h3 h9 h20 h87 a
 rintro a V ⟨rfl, hal, h10⟩
 simp (maxSteps := 1000000) (disch := omega) only [push_cast, ↓wc_ret, h10, Tryz.f12]
 exact fin
theorem does_c {e : Evt} (hn : 1501 ≤ n) (h : St S lab k kr p r A) (inv : Inv cfgs c A) (hc : c ≤ 60) (he : e.Ok) (hls : cfgs.length ≤ 100) :
  ∃ T lab', (∀ st, callD E (dcall E n) st S 12 [.loc k 0 0, .loc kr 0 0, .loc p 0 0, .loc r 0 0, .agg e.enc] = some (.bool true, T)) ∧ St T lab' k kr p r (stepF A e) := by
 obtain ⟨m, rfl⟩ : ∃ m, n = m + 1 := ⟨n - 1, by omega⟩
 have : WO (dcall E (m + 1) 12 [.loc k 0 0, .loc kr 0 0, .loc p 0 0, .loc r 0 0, .agg e.enc] S) fun d T => d = .bool true ∧ ∃ lab', St T lab' k kr p r (stepF A e) := by
  obtain ⟨kd, nn, x, eq⟩ := e
  by_cases k0 : kd = 0
  ·subst k0; exact does0_d (by omega) h inv hc he hls
  by_cases k1 : kd = 1
  ·subst k1; exact does1_d (by omega) h inv hc he hls
  by_cases k2 : kd = 2
  ·subst k2; exact does2_d (by omega) h inv hc he hls
  by_cases k3 : kd = 3
  ·subst k3; exact does3_d (by omega) h inv hc he hls
  by_cases k4 : kd = 4
  ·subst k4
   cases hx : x.legs with
   | nil => exact does4n_d hx (by omega) h inv hc he hls
   | cons w ws => exact does4c_d hx (by omega) h inv hc he hls
  by_cases k5 : kd = 5
  ·subst k5; exact does5_d (by omega) h inv hc he hls
  by_cases k6 : kd = 6
  ·subst k6; exact does6_d (by omega) h inv hc he hls
  exact does7_d k0 k1 k2 k3 k4 k5 k6 (by omega) h inv hc he hls
 obtain ⟨_, T, ho, rfl, lab', h'⟩ := this
 exact ⟨T, lab', fun st => (callD_genw rfl).trans ho, h'⟩
end
end Wl
end Go.Proofs.YthkbiiammhekfaaGreatDoor.Dm
