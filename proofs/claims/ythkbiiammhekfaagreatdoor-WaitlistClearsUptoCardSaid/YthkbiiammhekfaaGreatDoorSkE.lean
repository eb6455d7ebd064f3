/-
  The machine at tables without sales, the program's and the reference's.
-/
import Derived.Test.YthkbiiammhekfaaGreatDoorWlP
set_option linter.unusedSimpArgs false
set_option linter.unusedVariables false
namespace Go.Proofs.YthkbiiammhekfaaGreatDoor.Dm
open Go Gw
set_option linter.unusedSimpArgs false
set_option linter.unusedSimpArgs false

abbrev encR (p : Nat × Nat) : List D := [.os p.1 0 p.2 false]
theorem el_tab : elemT Tryz.prog 109 = some 119 := by kernel_rfl
theorem sz_tab : sizeT Tryz.prog 119 = some 1 := by kernel_rfl
theorem ze_tab : zeroT Tryz.prog 119 = some .nils := by kernel_rfl
theorem by_tab : bytesT Tryz.prog 119 ≤ 100000 := by
 have : bytesT Tryz.prog 119 = 24 := by kernel_rfl
 rw [this]; omega
structure TabG (S0 : Nat) (T : List Ob) (lab : Lab) (o i : Nat) (d : D) (l : List (Nat × Nat)) (t : List (List Int)) : Prop where
 gl : GL 1 encR T d l
 len : l.length = t.length
 own : ∀ k n, d = .os k 0 n false → S0 ≤ k ∧ lab k = [o, 2, i]
 row : ∀ (j r n : Nat) (row : List Int), l[j]? = some (r, n) → t[j]? = some row → n = row.length ∧ S0 ≤ r ∧ lab r = [o, 3, i, j] ∧ T[r]? = some (.row 1 (row.map encZ))
theorem TabG.nil {S0 : Nat} {T : List Ob} {lab : Lab} {o i : Nat} : TabG S0 T lab o i .nils [] [] := ⟨GL.nil, rfl, fun k n h => (by cases h), fun j r n row h => by simp at h⟩
theorem TabG.push {S0 : Nat} {T : List Ob} {lab : Lab} {o i : Nat} {d : D} {l : List (Nat × Nat)} {t : List (List Int)} (h : TabG S0 T lab o i d l t) (x : Ob) : TabG S0 (T ++ [x]) lab o i d l t :=
 ⟨h.gl.push x, h.len, h.own, fun j r n row h1 h2 => by
  obtain ⟨g1, g2, g3, g4⟩ := h.row j r n row h1 h2
  exact ⟨g1, g2, g3, get_old g4⟩⟩
theorem get_snoc {α : Type} {l : List α} {x y : α} {j : Nat} (h : (l ++ [x])[j]? = some y) : l[j]? = some y ∨ (j = l.length ∧ y = x) := by
 by_cases hj : j < l.length
 ·rw [List.getElem?_append_left hj] at h; exact .inl h
 ·rw [List.getElem?_append_right (by omega)] at h
  by_cases e : j = l.length
  ·subst e
   rw [Nat.sub_self] at h
   exact .inr ⟨rfl, by simpa using h.symm⟩
  ·rw [List.getElem?_eq_none (by simp; omega)] at h; cases h
theorem TabG.add {S0 : Nat} {T : List Ob} {lab : Lab} {o i : Nat} {d : D} {l : List (Nat × Nat)} {t : List (List Int)} (h : TabG S0 T lab o i d l t) (hf : FreshL T lab) (hS : S0 ≤ T.length) (hl : l.length ≤ 1000) (row : List Int) :
  ∃ T2 lab2, dAppend Tryz.prog (T ++ [.row 1 (row.map encZ)]) 109 109 d (.sl 1 [[.os T.length 0 row.length false]] true) = some (.os (T.length + 1) 0 (l.length + 1) false, T2) ∧
   TabG S0 T2 lab2 o i (.os (T.length + 1) 0 (l.length + 1) false) (l ++ [(T.length, row.length)]) (t ++ [row]) ∧ FreshL T2 lab2 ∧ T.length ≤ T2.length ∧ (∀ x, x < T.length → lab2 x = lab x) ∧ (∀ (x : Nat) (ob : Ob), x < S0 → T[x]? = some ob → T2[x]? = some ob) ∧ (∀ (x sz : Nat) (es : List (List D)), sz ≠ 1 → T[x]? = some (.row sz es) → T2[x]? = some (.row sz es)) := by
 obtain ⟨T2, ha, hg, hlen, hkeep, hrw⟩ := app_gl (enc := encR) el_tab sz_tab ze_tab rfl by_tab (h.gl.push (.row 1 (row.map encZ))) (by omega) (T.length, row.length)
 have hL : (T ++ [Ob.row 1 (row.map encZ)]).length = T.length + 1 := by simp
 rw [hL] at ha hg hlen
 have hown : ∀ k n, d = .os k 0 n false → k < T.length := fun k n e => by
  rcases h.gl with ⟨e', -⟩ | ⟨k', e', hk⟩
  ·rw [e] at e'; cases e'
  ·rw [e] at e'; cases e'; exact lt_of_get hk
 refine ⟨T2, setL (setL lab T.length [o, 3, i, l.length]) (T.length + 1) [o, 2, i], ha, ⟨hg, by simp [h.len], fun k n e => ?_, fun j r n row' h1 h2 => ?_⟩, fun x hx => ?_, by omega, fun x hx => ?_, fun x ob hx h1 => ?_, fun x sz es hz h1 => hrw x sz es hz (get_old h1)⟩
 ·injection e with e1
  subst e1
  exact ⟨by omega, setL_self⟩
 ·rcases get_snoc h1 with h1 | ⟨rfl, e2⟩
  ·have hj : j < t.length := by rw [← h.len]; exact lt_of_get h1
   rw [List.getElem?_append_left hj] at h2
   obtain ⟨g1, g2, g3, g4⟩ := h.row j r n row' h1 h2
   have hr := lt_of_get g4
   refine ⟨g1, g2, ?_, hkeep r _ (fun n' e => ?_) (get_old g4)⟩
   ·rw [setL_ne (by omega), setL_ne (by omega)]; exact g3
   ·have := (h.own r n' e).2
    rw [g3] at this
    simp at this
  ·injection e2 with e2 e3
   subst e2 e3
   rw [h.len, List.getElem?_append_right (Nat.le_refl _), Nat.sub_self] at h2
   have : row = row' := by simpa using h2
   subst this
   refine ⟨rfl, hS, ?_, hkeep _ _ (fun n' e => ?_) get_end⟩
   ·rw [setL_ne (by omega), setL_self]
   ·have := hown _ _ e; omega
 ·rw [setL_ne (by omega), setL_ne (by omega)]
  exact hf x (by omega)
 ·rw [setL_ne (by omega), setL_ne (by omega)]
 ·refine hkeep x ob (fun n e => ?_) (get_old h1)
  have := (h.own x n e).1
  omega
theorem TabG.tab {S0 : Nat} {T : List Ob} {lab : Lab} {o i : Nat} {d : D} {l : List (Nat × Nat)} {t : List (List Int)} (h : TabG S0 T lab o i d l t) (ht : t ≠ []) : TabAt T lab o i d t := by
 rcases h.gl with ⟨-, e⟩ | ⟨k, e, hk⟩
 ·have := h.len
  rw [e] at this
  exact absurd (List.eq_nil_of_length_eq_zero this.symm) ht
 ·refine ⟨k, fun j => ((l[j]?).map (·.1)).getD 0, l.map encR, by rw [e, h.len], (h.own k _ e).2, hk, by rw [List.length_map, h.len], fun j row hj => ?_⟩
  have hjl : j < l.length := by rw [h.len]; exact lt_of_get hj
  obtain ⟨g1, g2, g3, g4⟩ := h.row j (l[j]).1 (l[j]).2 row (List.getElem?_eq_getElem hjl) hj
  simp only [List.getElem?_map, List.getElem?_eq_getElem hjl, Option.map_some, Option.getD_some]
  exact ⟨by rw [← g1], g3, g4⟩
theorem TabG.ge {S0 : Nat} {T : List Ob} {lab : Lab} {o i : Nat} {d : D} {l : List (Nat × Nat)} {t : List (List Int)} (h : TabG S0 T lab o i d l t) {s0 : Nat} (hs : s0 ≤ S0) : TabG s0 T lab o i d l t :=
 ⟨h.gl, h.len, fun k n e => ⟨Nat.le_trans hs (h.own k n e).1, (h.own k n e).2⟩, fun j r n row h1 h2 => by
  obtain ⟨g1, g2, g3, g4⟩ := h.row j r n row h1 h2
  exact ⟨g1, Nat.le_trans hs g2, g3, g4⟩⟩
def cutL (S0 : Nat) (lab : Lab) : Lab := fun z => if S0 ≤ z then lab z else []
theorem cutL_eq {S0 z a : Nat} {t : List Nat} {lab : Lab} (h : cutL S0 lab z = a :: t) : S0 ≤ z ∧ lab z = a :: t := by
 unfold cutL at h
 split at h
 ·rename_i h1; exact ⟨h1, h⟩
 ·cases h
theorem TabG.cut {S0 : Nat} {T : List Ob} {lab : Lab} {o i : Nat} {d : D} {l : List (Nat × Nat)} {t : List (List Int)} (h : TabG S0 T lab o i d l t) : TabG S0 T (cutL S0 lab) o i d l t :=
 ⟨h.gl, h.len, fun k n e => ⟨(h.own k n e).1, by unfold cutL; rw [if_pos (h.own k n e).1]; exact (h.own k n e).2⟩, fun j r n row h1 h2 => by
  obtain ⟨g1, g2, g3, g4⟩ := h.row j r n row h1 h2
  exact ⟨g1, g2, by unfold cutL; rw [if_pos g2]; exact g3, g4⟩⟩
theorem TabAt.uncut {S0 : Nat} {T : List Ob} {lab : Lab} {o i : Nat} {d : D} {t : List (List Int)} (h : TabAt T (cutL S0 lab) o i d t) : TabAt T lab o i d t := by
 obtain ⟨q, r, es, h1, h2, h3, h4, h5⟩ := h
 refine ⟨q, r, es, h1, (cutL_eq h2).2, h3, h4, fun j row hj => ?_⟩
 obtain ⟨g1, g2, g3⟩ := h5 j row hj
 exact ⟨g1, (cutL_eq g2).2, g3⟩
def emptyT (cabs : List Cab) (c : Nat) : List (List Int) := (cabs.take c).map fun y => List.replicate y.cls.length 0
theorem emptyT_succ {cabs : List Cab} {c : Nat} {y : Cab} (h : cabs[c]? = some y) : emptyT cabs (c + 1) = emptyT cabs c ++ [List.replicate y.cls.length 0] := by
 unfold emptyT
 rw [List.take_add_one, h, List.map_append]
 rfl
theorem emptyT_len {cabs : List Cab} {c : Nat} (h : c ≤ cabs.length) : (emptyT cabs c).length = c := by
 unfold emptyT
 rw [List.length_map, List.length_take]; omega
theorem rep_row (n : Nat) : (List.replicate n (0 : Int)).map encZ = rowH n fun _ => 0 := by
 rw [List.map_replicate]; exact rowH_zero n
theorem mkI' {S : List Ob} {n : Nat} (hn : n ≤ 100000) : dMakeSlice Tryz.prog S 119 n n = some (.os S.length 0 n false, S ++ [.row 1 ((List.replicate n (0 : Int)).map encZ)]) := by
 rw [rep_row]; exact mkI hn
set_option maxHeartbeats 4000000 in
set_option maxRecDepth 100000 in
theorem empty_d {n o i : Nat} {c : Cfg} {S : List Ob} {lab : Lab} (hn : 110 ≤ n) (hc : CfgOk c) (hf : FreshL S lab) :
  WO (dcall E (n + 1) 69 [.agg c.enc] S) fun d T => ∃ l lab2, TabG S.length T lab2 o i d l (emptyF c) ∧ FreshL T lab2 ∧ (∀ x, x < S.length → lab2 x = lab x) ∧ ExtS S T := by
 have hl4 := hc.l2
 refine wo_dcall Tryz.func69 rfl (by decide) rfl 22 rfl (fun a hal ha => ?_)
 have h0 : a[0]? = some (.agg c.enc) := ha 0 (by simp)
 clear ha
 simp only [Cfg.enc] at h0
 simp (maxSteps := 1000000) (disch := omega) only [push_cast, ↓wc_seq, ↓wc_block, ↓wc_region, ↓wr_cons, ↓wr_nil, ↓wc_wl, Nat.reduceAdd, Nat.reduceMul, Nat.reduceLT, Nat.reduceEqDiff, ↓reduceIte, Nat.reduceBEq, hal, h0, get_end]
 refine wl_loop (fun k a T => a.length = 22 ∧ a[7]? = some (.sl 4 (c.cabs.map Cab.enc) c.cabsx) ∧ a[8]? = some (.int .i64 c.cabs.length) ∧ a[9]? = some (.int .i64 k) ∧ ∃ d l lab2, a[3]? = some d ∧ TabG S.length T lab2 o i d l (emptyT c.cabs k) ∧ FreshL T lab2 ∧ (∀ x, x < S.length → lab2 x = lab x) ∧ ExtS S T) c.cabs.length ?_ (by omega) ?_
 ·simp (maxSteps := 1000000) (disch := omega) only [push_cast, Nat.reduceLT, Nat.reduceEqDiff, ↓reduceIte, hal, Int.natCast_zero]
  exact ⟨_, [], lab, rfl, TabG.nil, hf.push _, fun _ _ => rfl, ExtS.app⟩
 clear hal h0 a
 rintro k a T hk ⟨hal, h7, h8, h9, d, l, lab2, h3, hg, hf2, hlab, hx⟩
 rcases Nat.lt_or_eq_of_le hk with hlt | rfl
 case inr =>
  have he : emptyT c.cabs c.cabs.length = emptyF c := by unfold emptyT emptyF; rw [List.take_length]
  rw [he] at hg
  simp (maxSteps := 1000000) (disch := omega) only [push_cast, ↓wc_seq, ↓wc_condL, ↓wc_region, ↓wr_cons, ↓wr_nil, ↓wc_exit, ↓wc_ret, Nat.reduceAdd, Nat.reduceMul, Nat.reduceLT, Nat.reduceEqDiff, ↓reduceIte, Nat.reduceBEq, hal, h3, h8, h9, Nat.lt_irrefl, Tryz.f69]
  exact ⟨_, _, hg, hf2, hlab, hx⟩
 obtain ⟨y, hy⟩ : ∃ y, c.cabs[k]? = some y := ⟨c.cabs[k], by simp [hlt]⟩
 have hyo := hc.cab y (List.mem_of_getElem? hy)
 have hl26 := hyo.l2
 have hgl := hg.len
 rw [emptyT_len (by omega)] at hgl
 have hSl := hx.len
 obtain ⟨T', lab3, ha, hg', hf3, hlen, hlab3, hkeep, -⟩ := (hg.push (cabR y)).add (hf2.push [cabR y]) (by rw [List.length_append]; omega) (by omega) (List.replicate y.cls.length 0)
 rw [← emptyT_succ hy] at hg'
 have mk := mkI' (S := T ++ [cabR y]) (n := y.cls.length) (by omega)
 rw [List.length_replicate] at ha
 have hL : (T ++ [cabR y]).length = T.length + 1 := by simp
 rw [hL] at ha mk
 rw [hL, List.length_replicate] at hg'
 simp (maxSteps := 1000000) (disch := omega) only [push_cast, ↓wc_seq, ↓wc_block, ↓wc_condL, ↓wc_region, ↓wr_cons, ↓wr_nil, ↓wc_skip, Nat.reduceAdd, Nat.reduceMul, Nat.reducePow, Nat.reduceLT, Nat.reduceLeDiff, Nat.reduceEqDiff, ↓wo_buildSlice, ↓reduceIte, Nat.reduceBEq, hal, h3, h7, h8, h9, hlt, hy, set_end, get_end, mk, ha, Cab.enc, wrap_ok, Int.natCast_add, Int.natCast_one]
 exact ⟨_, _, _, rfl, hg', hf3, fun x hx' => (hlab3 x (by rw [hL]; omega)).trans (hlab x hx'), fun x ob hob => hkeep x ob (lt_of_get hob) (get_old (hx x ob hob))⟩
theorem emptyF_ne {c : Cfg} (hc : CfgOk c) : emptyF c ≠ [] := fun e => by
 have h : (emptyF c).length = 0 := by rw [e]; rfl
 unfold emptyF at h
 rw [List.length_map] at h
 have := hc.l1
 omega
theorem empty_c {n o i : Nat} {c : Cfg} {S : List Ob} {lab : Lab} (hn : 120 ≤ n) (hc : CfgOk c) (hf : FreshL S lab) :
  ∃ d T lab2, (∀ st, callD E (dcall E n) st S 69 [.agg c.enc] = some (d, T)) ∧ TabAt T (cutL S.length lab2) o i d (emptyF c) ∧ (∃ q len, d = .os q 0 len false) ∧ FreshL T lab2 ∧ (∀ x, x < S.length → lab2 x = lab x) ∧ ExtS S T := by
 obtain ⟨q, rfl⟩ : ∃ q, n = q + 1 := ⟨n - 1, by omega⟩
 obtain ⟨d, T, ho, l, lab2, h1, h2, h3, h4⟩ := empty_d (n := q) (o := o) (i := i) (by omega) hc hf
 have hne := emptyF_ne hc
 have ht := h1.cut.tab hne
 obtain ⟨q', r, es, e, -⟩ := id ht
 exact ⟨d, T, lab2, fun st => callD_extS rfl ho h4, ht, ⟨q', _, e⟩, h2, h3, h4⟩
set_option maxHeartbeats 4000000 in
set_option maxRecDepth 100000 in
theorem rempty_d {n o i : Nat} {c : Cfg} {S : List Ob} {lab : Lab} (hn : 110 ≤ n) (hc : CfgOk c) (hf : FreshL S lab) :
  WO (dcall E (n + 1) 84 [.agg c.enc] S) fun d T => ∃ l lab2, TabG S.length T lab2 o i d l (emptyF c) ∧ FreshL T lab2 ∧ (∀ x, x < S.length → lab2 x = lab x) ∧ ExtS S T := by
 have hl4 := hc.l2
 refine wo_dcall Tryz.func84 rfl (by decide) rfl 24 rfl (fun a hal ha => ?_)
 have h0 : a[0]? = some (.agg c.enc) := ha 0 (by simp)
 clear ha
 simp only [Cfg.enc] at h0
 simp (maxSteps := 1000000) (disch := omega) only [push_cast, ↓wc_seq, ↓wc_block, ↓wc_region, ↓wr_cons, ↓wr_nil, ↓wc_wl, Nat.reduceAdd, Nat.reduceMul, ↓reduceIte, Nat.reduceBEq, h0]
 refine wl_loop (fun k a T => a.length = 24 ∧ a[1]? = some (.loc S.length 0 0) ∧ a[4]? = some (.int .i64 k) ∧ T[S.length]? = some (.row 2 [[.str c.equip, .sl 4 (c.cabs.map Cab.enc) c.cabsx]]) ∧ ∃ d l lab2, a[3]? = some d ∧ TabG (S.length + 1) T lab2 o i d l (emptyT c.cabs k) ∧ FreshL T lab2 ∧ (∀ x, x < S.length → lab2 x = lab x) ∧ ExtS S T) c.cabs.length ?_ (by omega) ?_
 ·simp (maxSteps := 1000000) (disch := omega) only [push_cast, Nat.reduceLT, Nat.reduceEqDiff, ↓reduceIte, hal, Int.natCast_zero]
  exact ⟨get_end, _, [], lab, rfl, TabG.nil, hf.push _, fun _ _ => rfl, ExtS.app⟩
 clear hal h0 a
 rintro k a T hk ⟨hal, h1, h4, hT0, d, l, lab2, h3, hg, hf2, hlab, hx⟩
 rcases Nat.lt_or_eq_of_le hk with hlt | rfl
 case inr =>
  have he : emptyT c.cabs c.cabs.length = emptyF c := by unfold emptyT emptyF; rw [List.take_length]
  rw [he] at hg
  simp (maxSteps := 1000000) (disch := omega) only [push_cast, ↓wc_seq, ↓wc_condL, ↓wc_region, ↓wr_cons, ↓wr_nil, ↓wc_exit, ↓wc_ret, Nat.reduceAdd, Nat.reduceMul, Nat.reduceLT, Nat.reduceEqDiff, ↓reduceIte, Nat.reduceBEq, hal, h1, h3, h4, Nat.lt_irrefl, hT0, Tryz.f84]
  exact ⟨_, _, hg.ge (by omega), hf2, hlab, hx⟩
 obtain ⟨y, hy⟩ : ∃ y, c.cabs[k]? = some y := ⟨c.cabs[k], by simp [hlt]⟩
 have hyo := hc.cab y (List.mem_of_getElem? hy)
 have hl26 := hyo.l2
 have hgl := hg.len
 rw [emptyT_len (by omega)] at hgl
 have hSl := hx.len
 have hlT := lt_of_get hT0
 obtain ⟨T', lab3, ha, hg', hf3, hlen, hlab3, hkeep, -⟩ := hg.add hf2 (by omega) (by omega) (List.replicate y.cls.length 0)
 rw [← emptyT_succ hy] at hg'
 have mk := mkI' (S := T) (n := y.cls.length) (by omega)
 rw [List.length_replicate] at ha hg'
 simp (maxSteps := 1000000) (disch := omega) only [push_cast, ↓wc_seq, ↓wc_block, ↓wc_condL, ↓wc_region, ↓wr_cons, ↓wr_nil, ↓wc_skip, Nat.reduceAdd, Nat.reduceMul, Nat.reducePow, Nat.reduceLT, Nat.reduceLeDiff, Nat.reduceEqDiff, ↓wo_buildSlice, ↓reduceIte, Nat.reduceBEq, hal, h1, h3, h4, hlt, hy, hT0, mk, ha, Cab.enc, wrap_ok, Int.natCast_add, Int.natCast_one]
 exact ⟨hkeep _ _ (by omega) hT0, _, _, _, rfl, hg', hf3, fun x hx' => (hlab3 x (by omega)).trans (hlab x hx'), fun x ob hob => hkeep x ob (by have := lt_of_get hob; omega) (hx x ob hob)⟩
theorem rempty_c {n o i : Nat} {c : Cfg} {S : List Ob} {lab : Lab} (hn : 120 ≤ n) (hc : CfgOk c) (hf : FreshL S lab) :
  ∃ d T lab2, (∀ st, callD E (dcall E n) st S 84 [.agg c.enc] = some (d, T)) ∧ TabAt T (cutL S.length lab2) o i d (emptyF c) ∧ (∃ q len, d = .os q 0 len false) ∧ FreshL T lab2 ∧ (∀ x, x < S.length → lab2 x = lab x) ∧ ExtS S T := by
 obtain ⟨q, rfl⟩ : ∃ q, n = q + 1 := ⟨n - 1, by omega⟩
 obtain ⟨d, T, ho, l, lab2, h1, h2, h3, h4⟩ := rempty_d (n := q) (o := o) (i := i) (by omega) hc hf
 have hne := emptyF_ne hc
 have ht := h1.cut.tab hne
 obtain ⟨q', r, es, e, -⟩ := id ht
 exact ⟨d, T, lab2, fun st => callD_extS rfl ho h4, ht, ⟨q', _, e⟩, h2, h3, h4⟩
end Go.Proofs.YthkbiiammhekfaaGreatDoor.Dm
