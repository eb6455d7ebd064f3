/-
  A waiting list with any number of requests: Delete.
  A waiting list with any number of requests: remove, Leave.
-/
import Derived.Test.YthkbiiammhekfaaGreatDoorWlC
set_option linter.unusedSimpArgs false
set_option linter.unusedVariables false
namespace Go.Proofs.YthkbiiammhekfaaGreatDoor.Dm
open Go Gw
set_option linter.unusedSimpArgs false
set_option linter.unusedSimpArgs false
namespace Wl
section
variable {n : Nat} {S : List Ob} {st : Bool}
theorem clearG {k c i : Nat} {es : List (List D)} (hk : S[k]? = some (.row 5 es)) (hi : i + 1 = es.length) : dClear Tryz.prog S 44 (.os k i 1 false) = some (S.set k (.row 5 (es.take i ++ [zW]))) := by
 have hz : (D.agg zW).cells.length = 4 + 1 ∧ (D.agg zW).cells.all D.one = true := ⟨rfl, rfl⟩
 have h1 : True ∧ 0 < 1 ∧ i + 1 ≤ es.length := ⟨trivial, by omega, by omega⟩
 have h2 : es.drop (i + 1) = [] := List.drop_eq_nil_of_le (by omega)
 simp only [dClear, elW, show sizeT Tryz.prog 53 = some (4 + 1) from szW, zeW, hz, hk, and_self, ↓reduceIte]
 rw [if_pos h1, h2, List.append_nil]
 rfl
theorem unW : Tryz.prog.underlying 44 = some (.slice 53) := Tryz.underlying44
theorem cut3 {k i c : Nat} {es : List (List D)} (hk : S[k]? = some (.row 5 es)) (hi : i < c) : ∃ v, dSlice Tryz.prog S 44 (.os k 0 c false) (some (.int .i64 i)) (some (.int .i64 ((i : Int) + 1))) (some (.int .i64 c)) = some v := by
 have e0 : (0 : Int) ≤ (i : Int) := by omega
 have e1 : (0 : Int) ≤ (i : Int) + 1 := by omega
 have e2 : ((i : Int) + 1).toNat = i + 1 := by omega
 have hsz : sizeT Tryz.prog 53 = some 5 := szW
 unfold dSlice
 rw [unW]
 dsimp only
 rw [hk]
 dsimp only
 rw [if_pos hsz]
 by_cases hlast : i + 1 = c
 ·refine ⟨.os k (0 + i) (i + 1 - i) true, ?_⟩
  have : dBounds c false (some (.int .i64 (i : Int))) (some (.int .i64 ((i : Int) + 1))) (some (.int .i64 (c : Int))) = some (i, i + 1, true) := by
   have h1 : i ≤ i + 1 ∧ i + 1 ≤ c := ⟨by omega, by omega⟩
   have h2 : (c : Int) = ((i + 1 : Nat) : Int) := by omega
   simp only [dBounds, boundN, if_pos e0, if_pos e1, Int.toNat_natCast, e2, if_pos h1, Option.isSome_some, h2, and_self, ↓reduceIte]
  rw [this]
  have h3 : ¬ (i + 1 = i ∧ 0 < i) := by omega
  simp only [if_neg h3]
  rfl
 ·refine ⟨.undef, ?_⟩
  have : dBounds c false (some (.int .i64 (i : Int))) (some (.int .i64 ((i : Int) + 1))) (some (.int .i64 (c : Int))) = none := by
   have h1 : i ≤ i + 1 ∧ i + 1 ≤ c := ⟨by omega, by omega⟩
   have h2 : ¬ (True ∧ (c : Int) = ((i + 1 : Nat) : Int)) := by omega
   simp only [dBounds, boundN, if_pos e0, if_pos e1, Int.toNat_natCast, e2, if_pos h1, Option.isSome_some, if_neg h2]
  rw [this]
  dsimp only
  rw [if_neg (by simp)]
  have h3 : dCut3 c (some (.int .i64 (i : Int))) (some (.int .i64 ((i : Int) + 1))) (some (.int .i64 (c : Int))) = true := by
   simp only [dCut3, Bool.and_eq_true, decide_eq_true_eq]
   omega
  rw [if_pos h3]
theorem DeleteG {k i c : Nat} {es : List (List D)} (hn : 1 ≤ n) (hk : S[k]? = some (.row 5 es)) (hc : es.length = c) (hi : i < c) (hl : c ≤ 100000) :
  ∃ es', callD E (dcall E n) st S 127 [.os k 0 c false, .int .i64 i, .int .i64 (i + 1)] = some (.os k 0 (c - 1) false, S.set k (.row 5 es')) ∧ es'.take (c - 1) = es.take i ++ es.drop (i + 1) := by
 obtain ⟨m, rfl⟩ : ∃ m, n = m + 1 := ⟨n - 1, by omega⟩
 have hz : (D.agg zW).cells.length = 4 + 1 := rfl
 have q0 : ¬ ((i : Int) = i + 1) := by omega
 have q1 : (i : Int) + 1 ≤ c := by omega
 have e1 : ((i : Int) + 1).toNat = i + 1 := by omega
 by_cases hlast : i + 1 = c
 ·have ha : ∀ b, dAppend Tryz.prog S 44 44 (.os k 0 i false) (.sl 5 [] b) = some (.os k 0 i false, S) := fun b => by
   have e1 : srcOf S (4 + 1) (.os k 0 i false) = some (es.take i) := by simp only [srcOf, hk]; simp; omega
   simp only [dAppend, elW, show sizeT Tryz.prog 53 = some (4 + 1) from szW, zeW, hz, e1, show srcOf S (4 + 1) (.sl 5 [] b) = some [] from rfl, List.length_nil, ↓reduceIte]
  have hcl := clearG (c := c) hk (i := i) (by omega)
  obtain ⟨v, s1⟩ := cut3 (c := c) hk hi
  have : WO (dcall E (m + 1) 127 [.os k 0 c false, .int .i64 i, .int .i64 (i + 1)] S) fun d T => d = .os k 0 (c - 1) false ∧ T = S.set k (.row 5 (es.take i ++ [zW])) := by
   refine wo_dcall Tryz.func127 rfl (by decide) rfl 33 rfl (fun a hal ha => ?_)
   have h0 : a[0]? = some (.os k 0 c false) := ha 0 (by simp)
   have h1 : a[1]? = some (.int .i64 i) := ha 1 (by simp)
   have h2 : a[2]? = some (.int .i64 (i + 1)) := ha 2 (by simp)
   clear ha
   have p1 : (0 : Int) ≤ (i : Int) + 1 := by omega
   have p2 : i ≤ c := by omega
   have p3 : ¬ (c = i) := by omega
   have p4 : ¬ (c ≤ i) := by omega
   have p5 : 0 < c := by omega
   have p6 : c - i = 1 := by omega
   have p7 : (i : Int) + 1 = c := by omega
   have p8 : ¬ ((i : Int) = c) := by omega
   simp (maxSteps := 1000000) (disch := omega) only [push_cast, ↓wc_seq, ↓wc_condL, ↓wc_region, ↓wr_cons, ↓wr_nil, ↓wc_ret, ↓wc_skip, Nat.reduceAdd, Nat.reduceMul, Nat.reduceLT, Nat.reduceEqDiff, ↓reduceIte, Nat.reduceBEq, reduceCtorEq, hal, h0, h1, h2, hk, hc, ha, hcl, p2, p3, p4, p5, p6, p7, p8, hi, Nat.zero_le, Nat.lt_irrefl, Nat.le_refl, and_self, and_true, false_and, and_false, Option.isNone_none, Bool.false_eq_true, Nat.sub_zero, Tryz.f127]
   rw [show c - 1 = i by omega]
  obtain ⟨d, T, ho, rfl, rfl⟩ := this
  refine ⟨_, (callD_genw rfl).trans ho, ?_⟩
  rw [show c - 1 = i by omega, List.take_left' (by simp; omega), List.drop_eq_nil_of_le (by omega), List.append_nil]
 ·obtain ⟨es1, he1⟩ : ∃ es1, es1 = es.take i ++ es.drop (i + 1) ++ es.drop (c - 1) := ⟨_, rfl⟩
  have hl1 : es1.length = c := by rw [he1]; simp; omega
  have ha : dAppend Tryz.prog S 44 44 (.os k 0 i false) (.os k (i + 1) (c - (i + 1)) false) = some (.os k 0 (c - 1) false, S.set k (.row 5 es1)) := by
   have f1 : srcOf S (4 + 1) (.os k 0 i false) = some (es.take i) := by simp only [srcOf, hk]; simp; omega
   have f2 : srcOf S (4 + 1) (.os k (i + 1) (c - (i + 1)) false) = some (es.drop (i + 1)) := by
    simp only [srcOf, hk]
    rw [if_pos ⟨trivial, by omega⟩, List.take_of_length_le (by simp; omega)]
   have f3 : (es.drop (i + 1)).length = c - 1 - i := by simp; omega
   have f4 : (es.take i).length = i := by simp; omega
   have f5 : ¬ (c - 1 - i = 0) := by omega
   have f6 : i + (c - 1 - i) = c - 1 := by omega
   have hb : (c - 1) * bytesT Tryz.prog 53 ≤ 140737488355328 := Nat.le_trans (Nat.mul_le_mul (show c - 1 ≤ 100000 by omega) byW) (by decide)
   have hm : (c - 1 ≤ maxLen) = True := le_max (by omega)
   have f7 : ¬ (i = es.length) := by omega
   have f8 : c - 1 ≤ es.length := by omega
   simp only [dAppend, elW, show sizeT Tryz.prog 53 = some (4 + 1) from szW, zeW, hz, f1, f2, f3, f4, f5, f6, hm, hb, hk, f7, f8, and_self, ↓reduceIte]
   rw [he1]
  have hk1 : (S.set k (.row 5 es1))[k]? = some (.row 5 es1) := List.getElem?_set_self (lt_of_get hk)
  have hcl := clearG (c := c) hk1 (i := c - 1) (by omega)
  rw [List.set_set] at hcl
  have : WO (dcall E (m + 1) 127 [.os k 0 c false, .int .i64 i, .int .i64 (i + 1)] S) fun d T => d = .os k 0 (c - 1) false ∧ T = S.set k (.row 5 (es1.take (c - 1) ++ [zW])) := by
   refine wo_dcall Tryz.func127 rfl (by decide) rfl 33 rfl (fun a hal ha => ?_)
   have h0 : a[0]? = some (.os k 0 c false) := ha 0 (by simp)
   have h1 : a[1]? = some (.int .i64 i) := ha 1 (by simp)
   have h2 : a[2]? = some (.int .i64 (i + 1)) := ha 2 (by simp)
   clear ha
   have p1 : (0 : Int) ≤ (i : Int) + 1 := by omega
   have p2 : i ≤ i + 1 ∧ i + 1 ≤ c := by omega
   have p3 : ¬ ((c : Int) = (i : Int) + 1) := by omega
   have p4 : ¬ (c = i + 1) := by omega
   have p5 : i ≤ c := by omega
   have p6 : c - (c - 1) = 1 := by omega
   have p7 : (i : Int) + 1 ≤ c := by omega
   have p8 : ¬ (c ≤ c - 1) := by omega
   have p9 : c - 1 < c := by omega
   have p10 : c - 1 ≤ c := by omega
   have p11 : (i : Int) ≤ (i : Int) + 1 := by omega
   have p12 : (0 : Int) ≤ (c : Int) - 1 := by omega
   have p13 : ((c : Int) - 1).toNat = c - 1 := by omega
   simp (maxSteps := 1000000) (disch := omega) only [push_cast, ↓wc_seq, ↓wc_condL, ↓wc_region, ↓wr_cons, ↓wr_nil, ↓wc_ret, ↓wc_skip, Nat.reduceAdd, Nat.reduceMul, Nat.reduceLT, Nat.reduceEqDiff, Int.reduceAdd, ↓reduceIte, Nat.reduceBEq, reduceCtorEq, hal, h0, h1, h2, hk, hk1, hc, hl1, q0, q1, e1, ha, hcl, p1, p2, p3, p4, p5, p6, p8, p9, p10, p11, p12, p13, Nat.zero_le, Nat.lt_irrefl, Nat.le_refl, Int.le_refl, and_self, and_true, false_and, and_false, Option.isNone_none, Option.isNone_some, Bool.false_eq_true, Nat.sub_zero, Tryz.f127]
  obtain ⟨d, T, ho, rfl, rfl⟩ := this
  refine ⟨_, (callD_genw rfl).trans ho, ?_⟩
  rw [List.take_left' (by simp; omega), he1, List.take_left' (by simp; omega)]
end
end Wl
end Go.Proofs.YthkbiiammhekfaaGreatDoor.Dm
namespace Go.Proofs.YthkbiiammhekfaaGreatDoor.Dm
open Go Gw
set_option linter.unusedSimpArgs false
set_option linter.unusedSimpArgs false
namespace Wl
section
variable {n : Nat} {S : List Ob} {st : Bool}
theorem LiN.setn {b j : Nat} {S : List Ob} {d : D} {l : List Wt} (h : LiN b S d l) (hj : j < b) (o : Ob) : LiN b (S.set j o) d l := by
 obtain ⟨q, es, h1, h0, h2, h3⟩ := h
 exact ⟨q, es, h1, h0, by rw [List.getElem?_set_ne (by omega)]; exact h2, h3⟩
theorem removeG {k i : Nat} {d : D} {l : List Wt} {x : Wt} (hn : 2 ≤ n) (hl : l.length ≤ 1000) (hi : l[i]? = some x) (hk : LiAt S k d) (h : LiD S d l) :
  ∃ T d', (∀ st, callD E (dcall E n) st S 79 [.loc k 0 0, .int .i64 i] = some (.agg x.enc, T)) ∧ LiAt T k d' ∧ LiN S.length T d' (l.take i ++ l.drop (i + 1)) ∧ ButAt k S T := by
 obtain ⟨m, rfl⟩ : ∃ m, n = m + 1 := ⟨n - 1, by omega⟩
 have hil := lt_of_get hi
 have hne : l ≠ [] := by rintro rfl; simp at hil
 have : WO (dcall E (m + 1) 79 [.loc k 0 0, .int .i64 i] S) fun r T => r = .agg x.enc ∧ ∃ d', LiAt T k d' ∧ LiN S.length T d' (l.take i ++ l.drop (i + 1)) ∧ ButAt k S T := by
  have hkl := lt_of_get hk
  obtain ⟨q, es, rfl, hq, hes⟩ : ∃ q es, d = .os q 0 l.length false ∧ S[q]? = some (.row 5 es) ∧ es.take l.length = l.map Wt.enc := by
   rcases h with ⟨-, h⟩ | h
   ·exact (hne h).elim
   ·exact h
  have hev : es[i]? = some x.enc := by
   have : (es.take l.length)[i]? = some x.enc := by rw [hes, List.getElem?_map, hi]; rfl
   rwa [List.getElem?_take_of_lt hil] at this
  have w1 := hk.app [.row 5 [zW]]
  have hq1 := get_psh hq [Ob.row 5 [zW]]
  have w2 := w1.app [.row 5 [x.enc]]
  have hD : LiD (S ++ [Ob.row 5 [zW]] ++ [Ob.row 5 [x.enc]]) (.os q 0 l.length false) l := .inr ⟨q, es, rfl, get_psh hq1 _, hes⟩
  obtain ⟨d2, J2, -, hJ, cc⟩ := CloneG (n := m) (by omega) (by omega) hD
  obtain ⟨rfl, rfl⟩ := hJ hne
  have w3 := w2.app [.row 5 (l.map Wt.enc)]
  obtain ⟨es', cd0, hes'⟩ := DeleteG (n := m) (st := false) (S := S ++ [Ob.row 5 [zW]] ++ [Ob.row 5 [x.enc]] ++ [Ob.row 5 (l.map Wt.enc)]) (k := (S ++ [Ob.row 5 [zW]] ++ [Ob.row 5 [x.enc]]).length) (i := i) (c := l.length) (by omega) get_end (by simp) hil (by omega)
  have cd := fun st => (callD_genw (st := st) rfl).trans ((callD_genw (st := false) rfl).symm.trans cd0)
  have hm : S.length ≤ (S ++ [Ob.row 5 [zW]] ++ [Ob.row 5 [x.enc]]).length := by simp
  have hb := ((((ButAt.push (k := k) (S := S) [Ob.row 5 [zW]]).trans (ButAt.push [Ob.row 5 [x.enc]])).trans (ButAt.push [Ob.row 5 (l.map Wt.enc)])).setn (.row 5 es') hm)
  have w4 : LiAt ((S ++ [Ob.row 5 [zW]] ++ [Ob.row 5 [x.enc]] ++ [Ob.row 5 (l.map Wt.enc)]).set (S ++ [Ob.row 5 [zW]] ++ [Ob.row 5 [x.enc]]).length (.row 5 es')) k (.os q 0 l.length false) := by
   unfold LiAt at w3 ⊢
   rw [List.getElem?_set_ne (by omega)]
   exact w3
  generalize hV : (S ++ [Ob.row 5 [zW]] ++ [Ob.row 5 [x.enc]] ++ [Ob.row 5 (l.map Wt.enc)]).set (S ++ [Ob.row 5 [zW]] ++ [Ob.row 5 [x.enc]]).length (.row 5 es') = V at *
  have gt4 : ∀ R, (V.set k R)[S.length]? = some (.row 5 [zW]) := fun R => by
   rw [List.getElem?_set_ne (by omega), ← hV, List.getElem?_set_ne (by simp <;> omega)]
   exact get_psh (get_psh get_end _) _
  have gt5 : ∀ R, (V.set k R)[(S ++ [Ob.row 5 [zW]]).length]? = some (.row 5 [x.enc]) := fun R => by
   rw [List.getElem?_set_ne (by simp <;> omega), ← hV, List.getElem?_set_ne (by simp)]
   exact get_psh get_end _
  have gr : ∀ R o, ((V.set k R).set S.length o)[S.length]? = some o := fun R o => List.getElem?_set_self (lt_of_get (gt4 R))
  have hlen : (l.take i ++ l.drop (i + 1)).length = l.length - 1 := by simp; omega
  have hgone : ∀ o, LiAt ((V.set k (.row 4 [[.os (S ++ [Ob.row 5 [zW]] ++ [Ob.row 5 [x.enc]]).length 0 (l.length - 1) false, fId, fOrd, .bool true]])).set S.length o) k (.os (S ++ [Ob.row 5 [zW]] ++ [Ob.row 5 [x.enc]]).length 0 (l.length - 1) false) ∧ LiN S.length ((V.set k (.row 4 [[.os (S ++ [Ob.row 5 [zW]] ++ [Ob.row 5 [x.enc]]).length 0 (l.length - 1) false, fId, fOrd, .bool true]])).set S.length o) (.os (S ++ [Ob.row 5 [zW]] ++ [Ob.row 5 [x.enc]]).length 0 (l.length - 1) false) (l.take i ++ l.drop (i + 1)) := fun o => by
   refine ⟨?_, (S ++ [Ob.row 5 [zW]] ++ [Ob.row 5 [x.enc]]).length, es', by rw [hlen], hm, ?_, ?_⟩
   ·unfold LiAt
    rw [List.getElem?_set_ne (by omega), List.getElem?_set_self (lt_of_get w4)]
   ·rw [List.getElem?_set_ne (by simp), List.getElem?_set_ne (by simp <;> omega), ← hV, List.getElem?_set_self (by simp)]
   ·rw [hlen, hes', List.map_append, List.map_take, List.map_drop]
  have hbut : ∀ R o, ButAt k S ((V.set k R).set S.length o) := fun R o => (hb.trans (ButAt.set R)).setn o (Nat.le_refl _)
  have hil' : (i : Int) < l.length := by omega
  unfold LiAt at w1 w2 w4
  simp only [zW, Wt.enc] at w1 w2 w4 hq1 hev cc cd gt4 gt5 hgone
  refine wo_dcall Tryz.func79 rfl (by decide) rfl 26 rfl (fun a hal ha => ?_)
  have h0 : a[0]? = some (.loc k 0 0) := ha 0 (by simp)
  have h1 : a[1]? = some (.int .i64 i) := ha 1 (by simp)
  clear ha
  simp (maxSteps := 1000000) (disch := omega) only [push_cast, ↓wc_seq, ↓wc_region, ↓wr_cons, ↓wr_nil, ↓wo_callf, ↓wc_ret, Nat.reduceAdd, Nat.reduceMul, Nat.reduceLT, Nat.reduceLeDiff, Nat.reduceEqDiff, ↓reduceIte, Nat.reduceBEq, reduceCtorEq, hal, h0, h1, w1, w2, w4, hq1, hev, hil', cc, cd, gt4, gt5, gr, get_end, set_end, wrap_ok, Tryz.f79]
  exact ⟨rfl, _, (hgone _).1, (hgone _).2, hbut _ _⟩
 obtain ⟨r, T, ho, rfl, d', h1, h2, h3⟩ := this
 exact ⟨T, d', fun st => (callD_genw rfl).trans ho, h1, h2, h3⟩
theorem LeaveNo {k : Nat} {d : D} {id : Int} {l : List Wt} (hn : l.length + 8 ≤ n) (hl : l.length ≤ 1000) (hi : idxF id l < 0) (hk : LiAt S k d) (h : LiD S d l) :
  ∃ J, ∀ st, callD E (dcall E n) st S 35 [.loc k 0 0, .int .i64 id] = some (.tup [.agg zW, .int .i64 7], S ++ J) := by
 obtain ⟨m, rfl⟩ : ∃ m, n = m + 1 := ⟨n - 1, by omega⟩
 have : WO (dcall E (m + 1) 35 [.loc k 0 0, .int .i64 id] S) fun r T => ∃ J, r = .tup [.agg zW, .int .i64 7] ∧ T = S ++ J := by
  have w1 := hk.app [.row 5 [zW]]
  have cf := fun st => FindG (n := m) (st := st) (id := id) (by omega) (by omega) w1 (h.app [.row 5 [zW]])
  unfold LiAt at w1
  simp only [zW] at w1 cf
  refine wo_dcall Tryz.func35 rfl (by decide) rfl 30 rfl (fun a hal ha => ?_)
  have h0 : a[0]? = some (.loc k 0 0) := ha 0 (by simp)
  have h1 : a[1]? = some (.int .i64 id) := ha 1 (by simp)
  clear ha
  simp (maxSteps := 1000000) (disch := omega) only [push_cast, ↓wc_seq, ↓wc_condL, ↓wc_region, ↓wr_cons, ↓wr_consgL, ↓wr_nil, ↓wo_pickL, ↓wo_callf, ↓wc_ret, ↓wc_skip, Nat.reduceAdd, Nat.reduceMul, Nat.reduceLT, Nat.reduceLeDiff, Nat.reduceEqDiff, ↓wo_build, ↓reduceIte, Nat.reduceBEq, reduceCtorEq, hal, h0, h1, eqp_list1, w1, dUn, cf, hi, get_end, set_end, Tryz.f35]
  exact ⟨_, rfl, rfl⟩
 obtain ⟨r, T, ho, J, rfl, rfl⟩ := this
 exact ⟨J, fun st => (callD_genw rfl).trans ho⟩
theorem LeaveG {k i : Nat} {d : D} {id : Int} {l : List Wt} {x : Wt} (hn : l.length + 8 ≤ n) (hl : l.length ≤ 1000) (hi : idxF id l = i) (hx : l[i]? = some x) (hk : LiAt S k d) (h : LiD S d l) :
  ∃ T d', (∀ st, callD E (dcall E n) st S 35 [.loc k 0 0, .int .i64 id] = some (.tup [.agg x.enc, .int .i64 0], T)) ∧ LiAt T k d' ∧ LiN S.length T d' (l.take i ++ l.drop (i + 1)) ∧ ButAt k S T := by
 obtain ⟨m, rfl⟩ : ∃ m, n = m + 1 := ⟨n - 1, by omega⟩
 have : WO (dcall E (m + 1) 35 [.loc k 0 0, .int .i64 id] S) fun r T => r = .tup [.agg x.enc, .int .i64 0] ∧ ∃ d', LiAt T k d' ∧ LiN S.length T d' (l.take i ++ l.drop (i + 1)) ∧ ButAt k S T := by
  have hkl := lt_of_get hk
  have w1 := hk.app [.row 5 [zW]]
  have cf := fun st => FindG (n := m) (st := st) (id := id) (by omega) (by omega) w1 (h.app [.row 5 [zW]])
  rw [hi] at cf
  obtain ⟨T, d', cr, q1, q2, hb⟩ := removeG (n := m) (by omega) hl hx w1 (h.app [.row 5 [zW]])
  have gz : T[S.length]? = some (.row 5 [zW]) := by
   rw [hb.2 S.length (by simp) (by omega)]
   exact get_end
  have gr : ∀ o, (T.set S.length o)[S.length]? = some o := fun o => List.getElem?_set_self (lt_of_get gz)
  have hni : ¬ ((i : Int) < 0) := by omega
  have u1 : ∀ o, LiAt (T.set S.length o) k d' := fun o => by
   unfold LiAt at q1 ⊢
   rw [List.getElem?_set_ne (by omega)]
   exact q1
  have u2 := fun o => (q2.setn (j := S.length) (by simp) o).le (a := S.length) (by simp)
  have u3 : ∀ o, ButAt k S (T.set S.length o) := fun o => ((ButAt.push _).trans hb).setn o (Nat.le_refl _)
  unfold LiAt at w1
  simp only [zW, Wt.enc] at w1 cf cr gz
  refine wo_dcall Tryz.func35 rfl (by decide) rfl 30 rfl (fun a hal ha => ?_)
  have h0 : a[0]? = some (.loc k 0 0) := ha 0 (by simp)
  have h1 : a[1]? = some (.int .i64 id) := ha 1 (by simp)
  clear ha
  simp (maxSteps := 1000000) (disch := omega) only [push_cast, ↓wc_seq, ↓wc_condL, ↓wc_region, ↓wr_cons, ↓wr_consgL, ↓wr_nil, ↓wo_pickL, ↓wo_callf, ↓wc_ret, ↓wc_skip, Nat.reduceAdd, Nat.reduceMul, Nat.reduceLT, Nat.reduceLeDiff, Nat.reduceEqDiff, ↓reduceIte, Nat.reduceBEq, reduceCtorEq, hal, h0, h1, eqp_list1, w1, dUn, cf, cr, gz, gr, hni, Tryz.f35]
  exact ⟨rfl, d', u1 _, u2 _, u3 _⟩
 obtain ⟨r, T, ho, rfl, d', h1, h2, h3⟩ := this
 exact ⟨T, d', fun st => (callD_genw rfl).trans ho, h1, h2, h3⟩
theorem JoinG {k : Nat} {d : D} {l : List Wt} {x : Wt} (hn : l.length + 30 ≤ n) (hl : l.length ≤ 900) (ho : OrdL l) (h0 : x.legs ≠ []) (h6 : x.legs.length ≤ 6) (cv : ∀ st S, callD E (dcall E (n - 1)) st S 70 [.agg x.enc] = some (.bool true, S)) (hi : idxF x.id l < 0) (hk : LiAt S k d) (h : LiD S d l) :
  ∃ T d', (∀ st, callD E (dcall E n) st S 28 [.loc k 0 0, .agg x.enc] = some (.int .i64 0, T)) ∧ LiAt T k d' ∧ LiN S.length T d' (insL { x with legsx := false } l) ∧ ButAt k S T := by
 obtain ⟨m, rfl⟩ : ∃ m, n = m + 1 := ⟨n - 1, by omega⟩
 rw [Nat.add_sub_cancel] at cv
 have : WO (dcall E (m + 1) 28 [.loc k 0 0, .agg x.enc] S) fun r T => r = .int .i64 0 ∧ ∃ d', LiAt T k d' ∧ LiN S.length T d' (insL { x with legsx := false } l) ∧ ButAt k S T := by
  have w2 := hk.app [.row 5 [x.enc]]
  have cf := fun st => FindG (n := m) (st := st) (id := x.id) (by omega) (by omega) w2 (h.app [.row 5 [x.enc]])
  have cl := CloneL (n := m) (lx := x.legsx) (l := x.legs) (st := false) (S := S ++ [.row 5 [x.enc]]) (by omega) h0 h6
  obtain ⟨TT, d', ci, q1, q2, hb⟩ := insertG (n := m) (x := { x with legsx := false }) (by omega) hl ho (hk.app [.row 5 [{ x with legsx := false }.enc]]) (h.app [.row 5 [{ x with legsx := false }.enc]])
  have hb' : ButAt k S TT := (ButAt.push _).trans hb
  have hge : decide (idxF x.id l ≥ 0) = false := decide_eq_false (by omega)
  unfold LiAt at w2
  refine wo_dcall Tryz.func28 rfl (by decide) rfl 36 rfl (fun a hal ha => ?_)
  have h0 : a[0]? = some (.loc k 0 0) := ha 0 (by simp)
  have h1 : a[1]? = some (.agg x.enc) := ha 1 (by simp)
  clear ha
  simp only [Wt.enc] at h1 w2 cv cf cl ci
  simp (maxSteps := 1000000) (disch := omega) only [push_cast, ↓wc_seq, ↓wc_block, ↓wc_condL, ↓wc_region, ↓wr_cons, ↓wr_consgL, ↓wr_nil, ↓wo_pickL, ↓wo_callf, ↓wc_ret, ↓wc_skip, Nat.reduceAdd, Nat.reduceMul, Nat.reduceLT, Nat.reduceLeDiff, Nat.reduceEqDiff, ↓reduceIte, Nat.reduceBEq, reduceCtorEq, hal, h0, h1, eqp_list1, w2, dUn, cv, cf, cl, ci, hge, get_end, set_end, Tryz.f28]
  exact ⟨d', q1, q2.le (by simp), hb'⟩
 obtain ⟨r, T, ho, rfl, d', h1, h2, h3⟩ := this
 exact ⟨T, d', fun st => (callD_genw rfl).trans ho, h1, h2, h3⟩
end
end Wl
end Go.Proofs.YthkbiiammhekfaaGreatDoor.Dm
