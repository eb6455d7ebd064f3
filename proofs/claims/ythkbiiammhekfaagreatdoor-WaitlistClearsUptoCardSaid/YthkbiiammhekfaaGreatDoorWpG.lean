/-
  The reference's waiting list: Leave, Clear.
  The reference's waiting list: Clear.
-/
import Derived.Test.YthkbiiammhekfaaGreatDoorWpF
set_option linter.unusedSimpArgs false
set_option linter.unusedVariables false
namespace Go.Proofs.YthkbiiammhekfaaGreatDoor.Dm
open Go Gw
set_option linter.unusedSimpArgs false
set_option linter.unusedSimpArgs false
namespace Wl

theorem wc_tmpT {E : Env} {call : Call} {n t : Nat} {x y : Code} {a : List D} {S : List Ob} {Q : PostX} (h : a[t]? = some (.bool true)) (k : WC (codeD E call n x a S) Q) : WC (codeD E call n (.cond (.tmp t) x y) a S) Q := by
 rw [wc_cond, show evD E a (.tmp t) = .bool true by show (a[t]?).getD _ = _; rw [h]; rfl]
 simpa [pickQ] using k
section
variable {n : Nat} {S T V : List Ob} {st : Bool} {lab : Lab} {k p o : Nat} {l l' : List Wt} {s : Stk}
set_option maxHeartbeats 16000000 in
set_option maxRecDepth 100000 in
theorem LeaveR_d {id : Int} (hn : l.length + 40 ≤ n) (hl : l.length ≤ 900) (hf : FreshL S lab) (h : RLi S lab k l) :
  WO (dcall E (n + 1) 36 [.loc k 0 0, .int .i64 id] S) fun r T => r = .tup [.agg (leaveE l id).1, .int .i64 (leaveE l id).2] ∧ ∃ lab', RLi T lab' k (remF l id) ∧ Step 4 S lab T lab' := by
 have hR := h
 have hkS := h.lt
 obtain ⟨d, w1, w2, w3, w4⟩ := h
 obtain ⟨S1, hS1⟩ : ∃ S1, S1 = S ++ [Ob.row 5 [zW]] := ⟨_, rfl⟩
 have g0 : S1[S.length]? = some (.row 5 [zW]) := by rw [hS1]; exact get_end
 have g1 : S1[k]? = some (.row 1 [[d]]) := by rw [hS1]; exact get_psh w1 _
 have w2' : GL 5 Wt.enc S1 d l := by rw [hS1]; exact w2.push _
 have hlen1 : S1.length = S.length + 1 := by rw [hS1]; simp
 have st1 : Step 4 S lab S1 lab := by rw [hS1]; exact Step.push hf _
 have rl1 : RLi S1 lab k l := by rw [hS1]; exact hR.push _
 have gi := lt_of_get g0
 have es : ∀ o, S1.set S.length o = S ++ [o] := fun o => by rw [hS1]; simp
 refine wo_dcall Tryz.func36 rfl (by decide) rfl 57 rfl (fun a hal ha => ?_)
 have h0 : a[0]? = some (.loc k 0 0) := ha 0 (by simp)
 have h1 : a[1]? = some (.int .i64 id) := ha 1 (by simp)
 clear ha
 refine wc_scut (fun a T => T = S1 ∧ a.length = 57 ∧ a[0]? = some (.loc k 0 0) ∧ a[1]? = some (.int .i64 id) ∧ a[4]? = some (.loc S.length 0 0)) ?_ ?_
 ·simp (maxSteps := 1000000) (disch := omega) only [push_cast, ↓wc_region, ↓wr_cons, ↓wr_nil, Nat.reduceAdd, Nat.reduceMul, Nat.reduceLT, Nat.reduceEqDiff, ↓reduceIte, Nat.reduceBEq, reduceCtorEq, hal, h0, h1]
  rw [hS1]; rfl
 clear hal h0 h1 a
 rintro a T ⟨rfl, hal, h0, h1, h4⟩
 simp (maxSteps := 1000000) (disch := omega) only [push_cast, ↓wc_seq, ↓wc_block, ↓wc_region, ↓wr_cons, ↓wr_nil, ↓wc_wl, Nat.reduceAdd, Nat.reduceMul, ↓reduceIte, Nat.reduceBEq]
 refine wl_loop (fun i a U => (U = T ∧ ∀ (j : Nat) z, j < i → l[j]? = some z → z.id ≠ id) ∧ a.length = 57 ∧ a[0]? = some (.loc k 0 0) ∧ a[1]? = some (.int .i64 id) ∧ a[4]? = some (.loc S.length 0 0) ∧ a[6]? = some (.int .i64 i)) l.length ?_ (by omega) ?_
 ·simp (maxSteps := 1000000) (disch := omega) only [push_cast, Nat.reduceLT, Nat.reduceEqDiff, ↓reduceIte, reduceCtorEq, ne_eq, hal, h0, h1, h4, Int.natCast_zero]
  exact fun j z hj => by omega
 clear hal h0 h1 h4 a
 rintro i a U hi ⟨⟨rfl, hz⟩, hal, h0, h1, h4, h6⟩
 rcases Nat.lt_or_eq_of_le hi with hlt | rfl
 case inr =>
  have hm := idxF_miss (l := l) (id := id) (fun j z hz' => hz j z (lt_of_get hz') hz')
  have e1 : leaveE l id = (zW, 7) := by unfold leaveE; rw [if_pos (by omega)]
  have e2 : remF l id = l := by unfold remF; rw [if_pos (by omega)]
  rw [e1, e2]
  simp only [zW] at g0 es ⊢
  have fin := (⟨lab, hR.push [Ob.row 5 [zW]], Step.push hf [Ob.row 5 [zW]]⟩ : ∃ lab', RLi (S ++ [Ob.row 5 [zW]]) lab' k l ∧ Step 4 S lab (S ++ [Ob.row 5 [zW]]) lab')
  simp only [zW] at fin
  rcases w2' with ⟨rfl, rfl⟩ | ⟨q, rfl, hq⟩
  ·simp (maxSteps := 1000000) (disch := omega) only [push_cast, ↓wc_seq, ↓wc_condL, ↓wc_region, ↓wr_cons, ↓wr_nil, ↓wc_exit, ↓wc_ret, Nat.reduceAdd, Nat.reduceMul, Nat.reduceLT, Nat.reduceLeDiff, Nat.reduceEqDiff, ↓wo_build, ↓reduceIte, Nat.reduceBEq, reduceCtorEq, ne_eq, hal, h0, h4, h6, g0, g1, es, get_end, Int.natCast_zero, Int.lt_irrefl, Tryz.f36]
   exact fin
  ·simp (maxSteps := 1000000) (disch := omega) only [push_cast, ↓wc_seq, ↓wc_condL, ↓wc_region, ↓wr_cons, ↓wr_nil, ↓wc_exit, ↓wc_ret, Nat.reduceAdd, Nat.reduceMul, Nat.reduceLT, Nat.reduceLeDiff, Nat.reduceEqDiff, ↓wo_build, ↓reduceIte, Nat.reduceBEq, reduceCtorEq, ne_eq, hal, h0, h4, h6, g0, g1, es, get_end, Int.lt_irrefl, Tryz.f36]
   exact fin
 obtain ⟨y, hy⟩ : ∃ y, l[i]? = some y := ⟨l[i], by simp⟩
 obtain ⟨q, hd, hq⟩ : ∃ q, d = .os q 0 l.length false ∧ U[q]? = some (.row 5 (l.map Wt.enc)) := by
  rcases w2' with ⟨-, e⟩ | h
  ·rw [e] at hlt; simp at hlt
  ·exact h
 by_cases hid : y.id = id
 case neg =>
  have hz' : ∀ (j : Nat) z, j < i + 1 → l[j]? = some z → z.id ≠ id := fun j z hj hzj => by
   rcases Nat.lt_or_eq_of_le (Nat.le_of_lt_succ hj) with hj | rfl
   ·exact hz j z hj hzj
   ·rw [hy] at hzj
    cases hzj
    exact hid
  rw [hd] at g1
  simp (maxSteps := 1000000) (disch := omega) only [push_cast, ↓wc_seq, ↓wc_block, ↓wc_condL, ↓wc_region, ↓wr_cons, ↓wr_nil, ↓wc_skip, Nat.reduceAdd, Nat.reduceMul, Nat.reduceLT, Nat.reduceEqDiff, ↓reduceIte, Nat.reduceBEq, reduceCtorEq, ne_eq, hal, h0, h1, h4, h6, g1, hq, hlt, hy, hid, Wt.enc, wrap_ok, Int.natCast_add, Int.natCast_one]
  exact hz'
 have hidx := idxF_hit hy hid hz
 have e1 : leaveE l id = (y.enc, 0) := by
  unfold leaveE
  rw [hidx, if_neg (by omega), Int.toNat_natCast, hy]; rfl
 have e2 : remF l id = l.take i ++ l.drop (i + 1) := by unfold remF; rw [hidx, if_neg (by omega), Int.toNat_natCast]
 rw [e1, e2]
 obtain ⟨S2, hS2⟩ : ∃ S2, S2 = U ++ [Ob.row 5 [y.enc]] := ⟨_, rfl⟩
 have f0 : S2[S.length]? = some (.row 5 [zW]) := by rw [hS2]; exact get_psh g0 _
 have f1 : S2[k]? = some (.row 1 [[d]]) := by rw [hS2]; exact get_psh g1 _
 have f2 : S2[U.length]? = some (.row 5 [y.enc]) := by rw [hS2]; exact get_end
 have wS2 : GL 5 Wt.enc S2 d l := by rw [hS2]; exact w2'.push _
 have len2 : S2.length = S.length + 2 := by rw [hS2, List.length_append, hlen1]; rfl
 obtain ⟨s0, hs0, hs1⟩ := slice_head (m := i) wS2 (by omega)
 obtain ⟨d1, V1, ca1, G1, len3, k1, n1⟩ := app_gs (S := S2) (d := .nils) (l := []) (g := l.take i) elR szR zeR rfl byR GL.nil hs1 (by simp; omega)
 rw [List.nil_append] at G1
 have keep1 : ∀ (x : Nat) ob, S2[x]? = some ob → V1[x]? = some ob := fun x ob h => k1 x ob (fun n e => by cases e) h
 have q1 : ∀ q m y, d1 = .os q 0 m y → S2.length ≤ q := fun q m y e => (n1 q m y e).resolve_right (fun h => by rw [h] at e; cases e)
 have wV1 : GL 5 Wt.enc V1 d l := by
  rcases wS2 with h | ⟨q, e1, e2⟩
  ·exact .inl h
  ·exact .inr ⟨q, e1, keep1 _ _ e2⟩
 obtain ⟨t0, ht0, ht1⟩ := slice_tail (m := i + 1) wV1 (by omega)
 obtain ⟨d3, V3, ca3, G3, len4, k3, n3⟩ := app_gs (S := V1) (d := d1) (l := l.take i) (g := l.drop (i + 1)) elR szR zeR rfl byR G1 ht1 (by simp; omega)
 have keep3 : ∀ (x : Nat) ob, S2[x]? = some ob → V3[x]? = some ob := fun x ob h => k3 x ob (fun n e => by have := q1 _ _ _ e; have := lt_of_get h; omega) (keep1 x ob h)
 have q3 : ∀ q m y, d3 = .os q 0 m y → S2.length ≤ q := fun q m y e => by
  rcases n3 q m y e with h | h
  ·omega
  ·rw [h] at e; exact q1 _ _ _ e
 have gk1 := keep1 _ _ f1
 have gk3 := keep3 _ _ f1
 have gy3 := keep3 _ _ f2
 have gz3 := keep3 _ _ f0
 have hlt3 := lt_of_get gk3
 have hlz3 := lt_of_get gz3
 have hzk : S.length ≠ k := by omega
 have hyk : U.length ≠ k := by omega
 have hr : ∀ R, (V3.set k R)[S.length]? = some (.row 5 [zW]) := fun R => by rw [List.getElem?_set_ne (by omega)]; exact gz3
 have hr2 : ∀ R, (V3.set k R)[U.length]? = some (.row 5 [y.enc]) := fun R => by rw [List.getElem?_set_ne (by omega)]; exact gy3
 have hr3 : ∀ R R', ((V3.set k R).set S.length R')[S.length]? = some R' := fun R R' => List.getElem?_set_self (by simpa using hlz3)
 obtain ⟨lab', r1, r2⟩ := RLi.new (S := S) (V := V3.set S.length (.row 5 [y.enc])) (l' := l.take i ++ l.drop (i + 1)) (d := d3) hf w3 hkS (by simp; omega) (fun z hz => by
  rw [List.getElem?_set_ne (by omega)]
  have e : S2[z]? = S[z]? := by rw [hS2, List.getElem?_append_left (by omega), hS1, List.getElem?_append_left hz]
  rw [← e]
  exact (keep3 z _ (by rw [e]; exact List.getElem?_eq_getElem hz)).trans (by rw [e]; exact (List.getElem?_eq_getElem hz).symm)) (by
   rcases G3 with h | ⟨q, e1, e2⟩
   ·exact .inl h
   ·exact .inr ⟨q, e1, by rw [List.getElem?_set_ne (by have := q3 _ _ _ e1; omega)]; exact e2⟩) (fun q m y e => by have := q3 q m y e; omega)
 rw [List.set_comm _ _ hzk] at r1 r2
 have hic : (i : Int) + 1 = ((i + 1 : Nat) : Int) := by omega
 have hw1 : IntKind.i64.wrap ((i : Int) + 1) = ((i + 1 : Nat) : Int) := by rw [hic]; exact wrap_ok (by omega) (by omega)
 have gU : U[k]? = some (.row 1 [[.os q 0 l.length false]]) := by rw [← hd]; exact g1
 simp (maxSteps := 1000000) (disch := omega) only [push_cast, ↓reduceIte] at hs0
 simp (maxSteps := 1000000) (disch := omega) only [push_cast, ↓reduceIte] at ht0
 refine wc_scut (fun a V => V = U ∧ a.length = 57 ∧ a[0]? = some (.loc k 0 0) ∧ a[1]? = some (.int .i64 id) ∧ a[4]? = some (.loc S.length 0 0) ∧ a[6]? = some (.int .i64 i)) ?_ ?_
 ·simp (maxSteps := 1000000) (disch := omega) only [push_cast, ↓wc_seq, ↓wc_condL, ↓wc_region, ↓wr_cons, ↓wr_nil, ↓wc_skip, Nat.reduceAdd, Nat.reduceMul, Nat.reduceLT, Nat.reduceEqDiff, ↓reduceIte, Nat.reduceBEq, reduceCtorEq, hal, h0, h1, h4, h6, gU, hlt]
 clear hal h0 h1 h4 h6 a
 rintro a V ⟨rfl, hal, h0, h1, h4, h6⟩
 rw [wc_seq, wc_block]
 refine wc_scut (fun a U => U = V ∧ a.length = 57 ∧ a[0]? = some (.loc k 0 0) ∧ a[4]? = some (.loc S.length 0 0) ∧ a[6]? = some (.int .i64 i) ∧ a[27]? = some (.bool true)) ?_ ?_
 ·simp (maxSteps := 1000000) (disch := omega) only [push_cast, ↓wc_region, ↓wr_cons, ↓wr_nil, Nat.reduceAdd, Nat.reduceMul, Nat.reduceLT, Nat.reduceEqDiff, ↓reduceIte, Nat.reduceBEq, reduceCtorEq, hal, h0, h1, h4, h6, gU, hq, hlt, hy, hid, Wt.enc]
 clear hal h0 h1 h4 h6 a
 rintro a U ⟨rfl, hal, h0, h4, h6, h27⟩
 refine wc_tmpT h27 ?_
 refine wc_scut (fun a V => V = S2 ∧ a.length = 57 ∧ a[0]? = some (.loc k 0 0) ∧ a[4]? = some (.loc S.length 0 0) ∧ a[6]? = some (.int .i64 i) ∧ a[7]? = some (.loc U.length 0 0)) ?_ ?_
 ·simp (maxSteps := 1000000) (disch := omega) only [push_cast, ↓wc_region, ↓wr_cons, ↓wr_nil, Nat.reduceAdd, Nat.reduceMul, Nat.reduceLT, Nat.reduceLeDiff, Nat.reduceEqDiff, ↓reduceIte, Nat.reduceBEq, reduceCtorEq, hal, h0, h4, h6, gU, hq, hlt, hy, set_end, get_end, Wt.enc]
  rw [hS2]; rfl
 clear hal h0 h4 h6 h27 a
 rintro a V ⟨rfl, hal, h0, h4, h6, h7⟩
 simp only [zW, Wt.enc] at hr hr2 hr3 ⊢
 rcases G3 with ⟨rfl, -⟩ | ⟨qq, rfl, -⟩
 ·simp (maxSteps := 1000000) (disch := omega) only [push_cast, ↓wc_seq, ↓wc_region, ↓wr_cons, ↓wr_nil, ↓wc_ret, Nat.reduceAdd, Nat.reduceMul, Nat.reduceLT, Nat.reduceLeDiff, Nat.reduceEqDiff, ↓reduceIte, Nat.reduceBEq, reduceCtorEq, ne_eq, hal, h0, h4, h6, h7, f1, hs0, ca1, gk1, ht0, hw1, ca3, gk3, hr, hr2, hr3, Tryz.f36]
  exact ⟨lab', r1, r2⟩
 ·simp (maxSteps := 1000000) (disch := omega) only [push_cast, ↓wc_seq, ↓wc_region, ↓wr_cons, ↓wr_nil, ↓wc_ret, Nat.reduceAdd, Nat.reduceMul, Nat.reduceLT, Nat.reduceLeDiff, Nat.reduceEqDiff, ↓reduceIte, Nat.reduceBEq, reduceCtorEq, ne_eq, hal, h0, h4, h6, h7, f1, hs0, ca1, gk1, ht0, hw1, ca3, gk3, hr, hr2, hr3, Tryz.f36]
  exact ⟨lab', r1, r2⟩
theorem LeaveR {id : Int} (hn : l.length + 41 ≤ n) (hl : l.length ≤ 900) (hf : FreshL S lab) (h : RLi S lab k l) :
  ∃ T lab', (∀ st, callD E (dcall E n) st S 36 [.loc k 0 0, .int .i64 id] = some (.tup [.agg (leaveE l id).1, .int .i64 (leaveE l id).2], T)) ∧ RLi T lab' k (remF l id) ∧ Step 4 S lab T lab' := by
 obtain ⟨m, rfl⟩ : ∃ m, n = m + 1 := ⟨n - 1, by omega⟩
 obtain ⟨_, T, ho, rfl, lab', h1, h2⟩ := LeaveR_d (n := m) (id := id) (by omega) hl hf h
 exact ⟨T, lab', fun st => (callD_genw rfl).trans ho, h1, h2⟩
end
end Wl
end Go.Proofs.YthkbiiammhekfaaGreatDoor.Dm
namespace Go.Proofs.YthkbiiammhekfaaGreatDoor.Dm
open Go Gw
set_option linter.unusedSimpArgs false
set_option linter.unusedSimpArgs false
namespace Wl

def G5 (b : Nat) (S : List Ob) (lab : Lab) (d : D) (l : List Wt) : Prop := GL 5 Wt.enc S d l ∧ ∀ q n x, d = .os q 0 n x → lab q = [5] ∧ b ≤ q
theorem G5.keep {b : Nat} {S T : List Ob} {lab lab' : Lab} {d : D} {l : List Wt} (h : G5 b S lab d l) (g : KeepO 5 S lab T lab') : G5 b T lab' d l := by
 obtain ⟨h1, h2⟩ := h
 rcases h1 with ⟨e1, e2⟩ | ⟨q, e1, e2⟩
 ·exact ⟨.inl ⟨e1, e2⟩, fun q n x e => by rw [e1] at e; cases e⟩
 ·obtain ⟨u1, u2⟩ := h2 _ _ _ e1
  obtain ⟨v1, v2⟩ := g _ _ _ e2 u1
  refine ⟨.inr ⟨q, e1, v1⟩, fun q' n x e => ?_⟩
  rw [e1] at e
  cases e
  exact ⟨v2, u2⟩
theorem G5.app {b : Nat} {S : List Ob} {lab : Lab} {d : D} {l : List Wt} (h : G5 b S lab d l) (hf : FreshL S lab) (hb : b ≤ S.length) (hl : l.length ≤ 1000) (y : Wt) :
  ∃ d' T lab', dAppend Tryz.prog S 46 46 d (.sl 5 [y.enc] true) = some (d', T) ∧ G5 b T lab' d' (l ++ [y]) ∧ Step 5 S lab T lab' := by
 obtain ⟨T, h1, h2, h3, h4, -⟩ := app_gl (n := 4) elR szR zeR rfl byR h.1 (by omega) y
 refine ⟨_, T, setL lab S.length [5], h1, ⟨h2, fun q n x e => ?_⟩, ⟨by omega, fun x hx => ?_, fun x hx => setL_ne (by omega), fun x hx hl => ?_⟩⟩
 ·cases e
  exact ⟨setL_self, hb⟩
 ·rw [setL_ne (by omega)]; exact hf x (by omega)
 ·have := h4 x S[x] (fun n e => hl (by rw [(h.2 _ _ _ e).1]; rfl)) (List.getElem?_eq_getElem hx)
  rw [this, List.getElem?_eq_getElem hx]
theorem GU.appR {b : Nat} {S : List Ob} {lab : Lab} {d : D} {l : List Wt} (h : GU b S lab d l) (hf : FreshL S lab) (hb : b ≤ S.length) (hl : l.length ≤ 1000) (y : Wt) :
  ∃ d' T, dAppend Tryz.prog S 46 46 d (.sl 5 [y.enc] true) = some (d', T) ∧ GU b T lab d' (l ++ [y]) ∧ S.length ≤ T.length ∧ (∀ x ob, S[x]? = some ob → lab x ≠ [] ∨ x < b → T[x]? = some ob) := by
 obtain ⟨T, h1, h2, h3, h4, -⟩ := app_gl (n := 4) elR szR zeR rfl byR h.1 (by omega) y
 refine ⟨_, T, h1, ⟨h2, fun q n x e => ?_⟩, by omega, fun x ob hx hxb => h4 x ob (fun n e => ?_) hx⟩
 ·cases e
  exact ⟨hf _ (Nat.le_refl _), hb⟩
 ·obtain ⟨u1, u2⟩ := h.2 _ _ _ e
  rcases hxb with hxb | hxb
  ·exact hxb u1
  ·omega
section
variable {n : Nat} {S T V : List Ob} {st : Bool} {lab : Lab} {k p o : Nat} {l l' : List Wt} {s : Stk}
set_option maxHeartbeats 16000000 in
set_option maxRecDepth 100000 in
theorem ClearR_d (hn : l.length + 400 ≤ n) (hl : l.length ≤ 900) (hg : GoodW l) (h : RLi S lab k l) (hs : RAt S lab 2 p s) (ok : GoodS s) (hll : s.legs.length ≤ 100) (hls : s.l.length ≤ 100) :
  WO (dcall E (n + 1) 39 [.loc k 0 0, .loc p 0 0] S) fun d T => ∃ lab', GU S.length T lab' d (clrF s l).1 ∧ RLi T lab' k (clrF s l).2.1 ∧ RAt T lab' 2 p (clrF s l).2.2 ∧ StepL [2, 4, 5] S lab T lab' := by
 have hf := hs.1
 have hkS := h.lt
 refine wo_dcall Tryz.func39 rfl (by decide) rfl 52 rfl (fun a hal ha => ?_)
 have h0 : a[0]? = some (.loc k 0 0) := ha 0 (by simp)
 have h1 : a[1]? = some (.loc p 0 0) := ha 1 (by simp)
 clear ha
 simp (maxSteps := 1000000) (disch := omega) only [push_cast, ↓wc_seq, ↓wc_block, ↓wc_region, ↓wr_cons, ↓wr_nil, ↓wc_wl, Nat.reduceAdd, Nat.reduceMul, ↓reduceIte, Nat.reduceBEq]
 refine wl_loop (fun i a T => (∃ lab' d r, a[5]? = some d ∧ a[6]? = some r ∧ GU S.length T lab' d (clrF s (l.take i)).1 ∧ G5 S.length T lab' r (clrF s (l.take i)).2.1 ∧ RLi T lab' k l ∧ RAt T lab' 2 p (clrF s (l.take i)).2.2 ∧ StepL [2, 5] S lab T lab') ∧ a.length = 52 ∧ a[0]? = some (.loc k 0 0) ∧ a[1]? = some (.loc p 0 0) ∧ a[7]? = some (.int .i64 i)) l.length ?_ (by omega) ?_
 ·simp (maxSteps := 1000000) (disch := omega) only [push_cast, Nat.reduceLT, Nat.reduceEqDiff, ↓reduceIte, reduceCtorEq, hal, h0, h1, Int.natCast_zero]
  exact ⟨lab, _, _, rfl, rfl, GU.nil, ⟨GL.nil, fun q n x e => by cases e⟩, h, hs, StepL.refl hf⟩
 clear hal h0 h1 a
 rintro i a T hi ⟨⟨lab1, d, r, h5, h6, hG, hR, hL, hS, hSt⟩, hal, h0, h1, h7⟩
 have hLL := hL
 obtain ⟨dd, u1, u2, u3, u4⟩ := hL
 rcases Nat.lt_or_eq_of_le hi with hlt | rfl
 case inr =>
  rw [List.take_length] at hG hR hS
  -- the rest becomes the list
  have hTl := hSt.len
  have fin : ∃ lab', GU S.length (T.set k (.row 1 [[r]])) lab' d (clrF s l).1 ∧ RLi (T.set k (.row 1 [[r]])) lab' k (clrF s l).2.1 ∧ RAt (T.set k (.row 1 [[r]])) lab' 2 p (clrF s l).2.2 ∧ StepL [2, 4, 5] S lab (T.set k (.row 1 [[r]])) lab' := by
   have hkT := lt_of_get u1
   have hself : (T.set k (.row 1 [[r]]))[k]? = some (.row 1 [[r]]) := List.getElem?_set_self hkT
   have hk1 : lab k = [4] := by rw [← hSt.labs k hkS]; exact u3
   obtain ⟨lab2, hl2, hr2⟩ : ∃ lab2 : Lab, (∀ x, lab1 x ≠ [5] ∨ x < S.length → lab2 x = lab1 x) ∧ RLi (T.set k (.row 1 [[r]])) lab2 k (clrF s l).2.1 := by
    obtain ⟨r1, r2⟩ := hR
    rcases r1 with ⟨rfl, e2⟩ | ⟨q, rfl, e2⟩
    ·rw [e2]
     exact ⟨lab1, fun _ _ => rfl, _, hself, GL.nil, u3, fun q n x e => by cases e⟩
    ·obtain ⟨r3, r4⟩ := r2 _ _ _ rfl
     refine ⟨setL lab1 q [4], fun x hx => setL_ne (by rintro rfl; rcases hx with hx | hx; exact hx r3; omega), _, hself, .inr ⟨q, rfl, ?_⟩, ?_, fun q' n x e => by cases e; exact setL_self⟩
     ·rw [List.getElem?_set_ne (by rintro rfl; rw [u3] at r3; cases r3)]; exact e2
     ·rw [setL_ne (by rintro rfl; rw [u3] at r3; cases r3)]; exact u3
   have ko2 : KeepO 2 T lab1 (T.set k (.row 1 [[r]])) lab2 := fun x ob t hx hl => by
    refine ⟨?_, by rw [hl2 x (.inl (by rw [hl]; simp))]; exact hl⟩
    rw [List.getElem?_set_ne (by rintro rfl; rw [u3] at hl; cases hl)]; exact hx
   have fr : FreshL (T.set k (.row 1 [[r]])) lab2 := fun x hx => by
    have : lab1 x = [] := hSt.fresh x (by simpa using hx)
    rw [hl2 x (.inl (by rw [this]; simp))]; exact this
   refine ⟨lab2, ?_, hr2, ?_, ⟨by simpa using hTl, fr, fun x hx => by rw [hl2 x (.inr hx)]; exact hSt.labs x hx, fun x hx hl => ?_⟩⟩
   ·obtain ⟨q1, q2⟩ := hG
    rcases q1 with ⟨rfl, e2⟩ | ⟨q, rfl, e2⟩
    ·rw [e2]; exact GU.nil
    ·obtain ⟨r3, r4⟩ := q2 _ _ _ rfl
     refine ⟨.inr ⟨q, rfl, ?_⟩, fun q' n x e => ?_⟩
     ·rw [List.getElem?_set_ne (by rintro rfl; rw [u3] at r3; cases r3)]; exact e2
     ·cases e
      exact ⟨by rw [hl2 q (.inl (by rw [r3]; simp))]; exact r3, r4⟩
   ·obtain ⟨-, rd, rows, h⟩ := hS
    exact ⟨fr, rd, rows, h.keep ko2⟩
   ·rw [List.getElem?_set_ne (by rintro rfl; exact hl 4 (by simp) (by rw [hk1]; rfl))]
    exact hSt.keep x hx (fun o ho => hl o (by simp at ho ⊢; omega))
  obtain ⟨lab', f1, f2, f3, f4⟩ := fin
  have fin := (⟨lab', f1, f2, f3, f4⟩ : ∃ lab', GU S.length (T.set k (.row 1 [[r]])) lab' d (clrF s l).1 ∧ RLi (T.set k (.row 1 [[r]])) lab' k (clrF s l).2.1 ∧ RAt (T.set k (.row 1 [[r]])) lab' 2 p (clrF s l).2.2 ∧ StepL [2, 4, 5] S lab (T.set k (.row 1 [[r]])) lab')
  rcases u2 with ⟨rfl, rfl⟩ | ⟨qd, rfl, hqd⟩ <;> rcases hR.1 with ⟨rfl, -⟩ | ⟨qr, rfl, -⟩
  all_goals
   simp (maxSteps := 1000000) (disch := omega) only [push_cast, ↓wc_seq, ↓wc_condL, ↓wc_region, ↓wr_cons, ↓wr_nil, ↓wc_exit, ↓wc_ret, Nat.reduceAdd, Nat.reduceMul, Nat.reduceLT, Nat.reduceLeDiff, Nat.reduceEqDiff, ↓reduceIte, Nat.reduceBEq, reduceCtorEq, hal, h0, h5, h6, h7, u1, Int.natCast_zero, Int.lt_irrefl, Tryz.f39]
   exact fin
 have hltc : (i : Int) < l.length := by omega
 obtain ⟨y, hy⟩ : ∃ y, l[i]? = some y := ⟨l[i], by simp⟩
 have hym := List.mem_of_getElem? hy
 obtain ⟨y1, y2, y3, y4⟩ := hg.ok y hym
 obtain ⟨qd, rfl, hqd⟩ : ∃ q, dd = .os q 0 l.length false ∧ T[q]? = some (.row 5 (l.map Wt.enc)) := by
  rcases u2 with ⟨-, e⟩ | h
  ·rw [e] at hlt; simp at hlt
  ·exact h
 have hsucc := clrF_succ (s := s) hy
 obtain ⟨hgs, hgl, hgn⟩ := clr_good ok (l.take i)
 obtain ⟨hsub1, hsub2, hsub3⟩ := clr_sub s (l.take i)
 have hlt' : (l.take i).length = i := by rw [List.length_take]; omega
 generalize hA : clrF s (l.take i) = A at *
 obtain ⟨out, rest, sk⟩ := A
 dsimp only at hG hR hS hgs hgl hgn hsub1 hsub2 hsub3
 have hfT := hS.1
 obtain ⟨T1, hT1⟩ : ∃ T1, T1 = T ++ [Ob.row 5 [y.enc]] := ⟨_, rfl⟩
 have g1 : T1[T.length]? = some (.row 5 [y.enc]) := by rw [hT1]; exact get_end
 have lt1 : lab1 T.length = [] := hfT _ (Nat.le_refl _)
 have hS1 : RAt T1 lab1 2 p sk := by rw [hT1]; exact RAt.push hS _
 have hL1 : RLi T1 lab1 k l := by rw [hT1]; exact hLL.push _
 have hG1 : GU S.length T1 lab1 d out := by rw [hT1]; exact hG.push _
 have hR1 : G5 S.length T1 lab1 r rest := by rw [hT1]; exact hR.keep KeepO.push
 have hSt1 : StepL [2, 5] S lab T1 lab1 := by rw [hT1]; exact hSt.push _
 have cs := fun st => ServedR (n := n) (x := y) (by omega) hS1 hgs.ok9 (by omega) (by rw [hgl]; exact hls) (by omega) st
 have hTl := hSt.len
 have hT1l : T1.length = T.length + 1 := by rw [hT1]; simp
 refine wc_scut (fun a T' => T' = T ∧ a.length = 52 ∧ a[0]? = some (.loc k 0 0) ∧ a[1]? = some (.loc p 0 0) ∧ a[5]? = some (d) ∧ a[6]? = some (r) ∧ a[7]? = some (.int .i64 i)) ?_ ?_
 ·simp (maxSteps := 1000000) (disch := omega) only [push_cast, ↓wc_seq, ↓wc_condL, ↓wc_region, ↓wr_cons, ↓wr_nil, ↓wc_skip, Nat.reduceAdd, Nat.reduceMul, Nat.reduceLT, Nat.reduceEqDiff, ↓reduceIte, Nat.reduceBEq, reduceCtorEq, hal, h0, h1, h5, h6, h7, u1, hlt]
 clear hal h0 h1 h5 h6 h7 a
 rintro a T' ⟨rfl, hal, h0, h1, h5, h6, h7⟩
 rw [wc_seq, wc_block]
 refine wc_scut (fun a T'' => T'' = T1 ∧ a.length = 52 ∧ a[0]? = some (.loc k 0 0) ∧ a[1]? = some (.loc p 0 0) ∧ a[5]? = some (d) ∧ a[6]? = some (r) ∧ a[7]? = some (.int .i64 i) ∧ a[8]? = some (.loc T'.length 0 0)) ?_ ?_
 ·simp (maxSteps := 1000000) (disch := omega) only [push_cast, ↓wc_region, ↓wr_cons, ↓wr_nil, Nat.reduceAdd, Nat.reduceMul, Nat.reduceLT, Nat.reduceLeDiff, Nat.reduceEqDiff, ↓reduceIte, Nat.reduceBEq, reduceCtorEq, hal, h0, h1, h5, h6, h7, u1, hlt, hqd, hy, get_end, set_end, Wt.enc]
  rw [hT1]; rfl
 clear hal h0 h1 h5 h6 h7 a
 rintro a T'' ⟨rfl, hal, h0, h1, h5, h6, h7, h8⟩
 cases hsv : servedF sk y
 ·rw [hsv] at cs
  have hnx : clrF s (l.take (i + 1)) = (out, rest ++ [y], sk) := by
   rw [hsucc]; unfold clrS; rw [if_neg (by simp [hsv])]
  obtain ⟨d4, T4, lab4, ca, hR4, st4⟩ := hR1.app hS1.1 (by omega) (by have := hsub2.length_le; omega) y
  have sl4 : StepL [2, 5] T'' lab1 T4 lab4 := StepL.of st4 (by simp)
  have hG4 := hG1.step sl4
  have hL4 := hL1.keep (st4.keepO (by decide))
  have hS4 : RAt T4 lab4 2 p sk := RAt.other hS1 st4 (by decide)
  simp only [Wt.enc] at cs g1 ca
  simp (maxSteps := 1000000) (disch := omega) only [push_cast, ↓wc_seq, ↓wc_condL, ↓wc_region, ↓wr_cons, ↓wr_consgL, ↓wr_nil, ↓wo_pickL, ↓wo_callf, Nat.reduceAdd, Nat.reduceMul, Nat.reducePow, Nat.reduceLT, Nat.reduceLeDiff, Nat.reduceEqDiff, ↓wo_buildSlice, ↓reduceIte, Nat.reduceBEq, reduceCtorEq, hal, h0, h1, h5, h6, h7, h8, g1, cs, ca, wrap_ok, Int.natCast_add, Int.natCast_one]
  rw [hnx]
  exact ⟨hlt, lab4, d, _, rfl, rfl, hG4, hR4, hL4, hS4, hSt1.trans sl4⟩
 ·rw [hsv] at cs
  have hnx : clrF s (l.take (i + 1)) = (out ++ [y], rest, (sk.sell y.legs y.cl y.cnt).2) := by
   rw [hsucc]; unfold clrS; rw [if_pos hsv]
  obtain ⟨_, T2, ce, rfl, lab2, hS2, st2⟩ := gen_of (n := n) (by omega) rfl (rSell_d (n := n - 1) (ids := y.legs) (by omega) hS1 hgs.ok9 (by omega) (by rw [hgl]; exact hls) (by omega) (di := .sl 4 (y.legs.map Lid.enc) y.legsx) (.inr ⟨_, rfl⟩) y.cl y.cnt)
  rw [served_ok y1 hsv] at ce
  have sl2 : StepL [2, 5] T'' lab1 T2 lab2 := StepL.of st2 (by simp)
  have hL2 := hL1.keep (st2.keepO (by decide))
  have hR2 := hR1.keep (st2.keepO (by decide))
  have hG2 := hG1.step sl2
  obtain ⟨g2, lt2⟩ := sl2.free g1 lt1
  have sall := hSt1.trans sl2
  obtain ⟨d4, T4, ca, hG4, len4, k4⟩ := hG2.appR hS2.1 sall.len (by have := hsub1.length_le; omega) y
  have ko : ∀ o', KeepO o' T2 lab2 T4 lab2 := fun o' x ob t hx hl => ⟨k4 x ob hx (.inl (by rw [hl]; simp)), hl⟩
  have f4 : FreshL T4 lab2 := fun x hx => sall.fresh x (Nat.le_trans len4 hx)
  have hS4 : RAt T4 lab2 2 p (sk.sell y.legs y.cl y.cnt).2 := by
   obtain ⟨-, rd, rows, h⟩ := hS2
   exact ⟨f4, rd, rows, h.keep (ko 2)⟩
  have hL4 := hL2.keep (ko 4)
  have hR4 := hR2.keep (ko 5)
  have s4 : StepL [2, 5] S lab T4 lab2 := ⟨Nat.le_trans sall.len len4, f4, sall.labs, fun x hx hl => by
   have hx3 := sall.keep x hx hl
   have hxs : S[x]? = some S[x] := List.getElem?_eq_getElem hx
   rw [hxs] at hx3 ⊢
   exact k4 x _ hx3 (.inr hx)⟩
  simp only [Wt.enc] at cs ce ca g1 g2
  simp (maxSteps := 1000000) (disch := omega) only [push_cast, ↓wc_seq, ↓wc_condL, ↓wc_region, ↓wr_cons, ↓wr_consgL, ↓wr_nil, ↓wo_pickL, ↓wo_callf, Nat.reduceAdd, Nat.reduceMul, Nat.reducePow, Nat.reduceLT, Nat.reduceLeDiff, Nat.reduceEqDiff, ↓wo_buildSlice, ↓reduceIte, Nat.reduceBEq, reduceCtorEq, hal, h0, h1, h5, h6, h7, h8, g1, g2, cs, ce, ca, wrap_ok, Int.natCast_add, Int.natCast_one]
  rw [hnx]
  exact ⟨hlt, lab2, d4, r, rfl, rfl, hG4, hR4, hL4, hS4, s4⟩
theorem ClearR (hn : l.length + 401 ≤ n) (hl : l.length ≤ 900) (hg : GoodW l) (h : RLi S lab k l) (hs : RAt S lab 2 p s) (ok : GoodS s) (hll : s.legs.length ≤ 100) (hls : s.l.length ≤ 100) :
  ∃ d T lab', (∀ st, callD E (dcall E n) st S 39 [.loc k 0 0, .loc p 0 0] = some (d, T)) ∧ GU S.length T lab' d (clrF s l).1 ∧ RLi T lab' k (clrF s l).2.1 ∧ RAt T lab' 2 p (clrF s l).2.2 ∧ StepL [2, 4, 5] S lab T lab' := by
 obtain ⟨m, rfl⟩ : ∃ m, n = m + 1 := ⟨n - 1, by omega⟩
 obtain ⟨d, T, ho, lab', h1, h2, h3, h4⟩ := ClearR_d (n := m) (by omega) hl hg h hs ok hll hls
 exact ⟨d, T, lab', fun st => (callD_genw rfl).trans ho, h1, h2, h3, h4⟩
end
end Wl
end Go.Proofs.YthkbiiammhekfaaGreatDoor.Dm
