/-
  What plain data of a type are: words for structs, and for slices of them.
  The machine at the methods of an inventory that is nil or a zero value.
  The waiting list that is nil, a zero value, or new.
  The waiting list that is nil, a zero value, or new: its methods.
  The reference's inventory: New, Open, Excess.
  The reference's inventory: Resize.
  The reference's calls of an inventory: Say.
-/
import Derived.Test.YthkbiiammhekfaaGreatDoorEval
import Derived.Test.YthkbiiammhekfaaGreatDoorEnvL
import Derived.Test.YthkbiiammhekfaaGreatDoorTod
import Derived.Test.YthkbiiammhekfaaGreatDoorWlP
import Derived.Test.YthkbiiammhekfaaGreatDoorSkW
import Derived.Test.YthkbiiammhekfaaGreatDoorSkF
import Derived.Test.YthkbiiammhekfaaGreatDoorRsB
import Derived.Test.YthkbiiammhekfaaGreatDoorWq
set_option linter.unusedSimpArgs false
set_option linter.unusedVariables false
namespace Go.Proofs.YthkbiiammhekfaaGreatDoor
open Go Dm Go.RowKit

theorem int_bd {n : Int} (h : (Lit.int .i64 n).wf = true) : -9223372036854775808 ≤ n ∧ n ≤ 9223372036854775807 := by
 unfold Lit.wf at h
 rw [Bool.and_eq_true, decide_eq_true_eq, decide_eq_true_eq] at h
 exact h
theorem len_bd {n : Nat} (h : n ≤ maxLen) : n ≤ 9223372036854775807 := by
 simp only [maxLen] at h; omega
def CellR (e e' : List D) : Prop := e'.length = e.length ∧ ∀ (j : Nat) (c c' : D), e[j]? = some c → e'[j]? = some c' → c'.one = true ∧ ∀ W C u, VR W C c u → VR W C c' u
theorem nils_sl {W : World} {C : Cx} {v : Value} {sz : Nat} (h : VR W C .nils v) : VR W C (.sl sz [] true) v := by
 cases h
 exact .sl0 (fun _ => rfl)
theorem VR.sl_rel {W : World} {C : Cx} {sz : Nat} {es es' : List (List D)} {x : Bool} {v : Value} (h : VR W C (.sl sz es x) v) (hl : es'.length = es.length) (hr : ∀ (j : Nat) (e e' : List D), es[j]? = some e → es'[j]? = some e' → CellR e e') : VR W C (.sl sz es' x) v := by
 have at' : ∀ {j : Nat} {e' : List D}, es'[j]? = some e' → ∃ e, es[j]? = some e := fun {j e'} h => by
  have hj := (List.getElem?_eq_some_iff.1 h).1
  exact ⟨es[j]'(by omega), List.getElem?_eq_getElem (by omega)⟩
 have cell : ∀ {e e' : List D} {j : Nat} {c' : D}, CellR e e' → e'[j]? = some c' → ∃ c, e[j]? = some c := fun {e e' j c'} h k => by
  have hj := (List.getElem?_eq_some_iff.1 k).1
  exact ⟨e[j]'(by rw [← h.1]; exact hj), List.getElem?_eq_getElem (by rw [← h.1]; exact hj)⟩
 cases h with
 | sl vs hp hg hcap hx hs hc ho hv =>
  rw [← hl] at hp hcap hx hc ⊢
  refine .sl vs hp hg hcap hx (fun i e' he' => ?_) hc (fun i j e' c' he' hc' => ?_) (fun i j e' c' he' hc' => ?_)
  ·obtain ⟨e, he⟩ := at' he'
   rw [(hr i e e' he he').1]; exact hs i e he
  ·obtain ⟨e, he⟩ := at' he'
   obtain ⟨c, hc⟩ := cell (hr i e e' he he') hc'
   exact ((hr i e e' he he').2 j c c' hc hc').1
  ·obtain ⟨e, he⟩ := at' he'
   obtain ⟨c, hc⟩ := cell (hr i e e' he he') hc'
   exact ((hr i e e' he he').2 j c c' hc hc').2 _ _ _ (hv i j e c he hc)
 | sl0 hx =>
  have : es' = [] := List.eq_nil_of_length_eq_zero (by simpa using hl)
  subst this
  exact .sl0 hx
theorem CellR.refl {c : List D} (h : ∀ d ∈ c, d.one = true) : CellR c c := ⟨rfl, fun j x y hx hy => by
 rw [hx] at hy
 cases hy
 exact ⟨h _ (List.mem_of_getElem? hx), fun _ _ _ h => h⟩⟩
end Go.Proofs.YthkbiiammhekfaaGreatDoor
namespace Go.Proofs.YthkbiiammhekfaaGreatDoor.Dm
open Go Gw
set_option linter.unusedSimpArgs false
set_option linter.unusedSimpArgs false

theorem callD_obsPn {call : Call} {st : Bool} {S T : List Ob} {f : FuncId} {args : List D} {d d' : D} (hm : E.mode f = .obs) (hp : pureL args = true) (h : call f args [] = some (d, T)) (hd : freeze T 40 d = some d') : callD E call st S f args = some (d', S) := by
 unfold callD
 rw [hm]
 dsimp only
 rw [if_pos hp, h]
 dsimp only
 rw [hd]; rfl
def NoneAt (S : List Ob) (p : D) : Prop := p = .nilp ∨ ∃ k, p = .loc k 0 0 ∧ S[k]? = some (.row 2 [[.nils, .nilm]])
theorem NoneAt.app {S : List Ob} {p : D} (h : NoneAt S p) (J : List Ob) : NoneAt (S ++ J) p := by
 rcases h with h | ⟨k, h, hk⟩
 ·exact .inl h
 ·exact .inr ⟨k, h, by rw [List.getElem?_append_left (lt_of_get hk)]; exact hk⟩
section
variable {n : Nat} {S : List Ob} {p r : D} {f : FuncId} {xs : List D} {st : Bool}
end
def e320 : ByteArray := ByteArray.mk #[51, 50, 48]
section
variable {n : Nat} {S : List Ob} {p : D}
end
end Go.Proofs.YthkbiiammhekfaaGreatDoor.Dm
namespace Go.Proofs.YthkbiiammhekfaaGreatDoor.Dm
open Go Gw
set_option linter.unusedSimpArgs false
set_option linter.unusedSimpArgs false

theorem awake19_n {n : Nat} (hn : 1 ≤ n) (st : Bool) (S : List Ob) : callD E (dcall E n) st S 7 [] = some (.bool true, S) := by
 obtain ⟨m, rfl⟩ : ∃ m, n = m + 1 := ⟨n - 1, by omega⟩
 rfl
theorem callD_genw {call : Call} {st : Bool} {S : List Ob} {f : FuncId} {args : List D} (hm : E.mode f = .gen) : callD E call st S f args = call f args S := by
 unfold callD
 rw [hm]
theorem eqp_list1 (k : Nat) : dEq Tryz.prog 10000 33 (.loc k 0 0) .nilp = some false := eqp_loc Tryz.underlying33
def NoL (S : List Ob) (p : D) : Prop := p = .nilp ∨ ∃ k, p = .loc k 0 0 ∧ S[k]? = some (.row 4 [[.nils, .nilf, .nilf, .bool false]])
theorem NoL.app {S : List Ob} {p : D} (h : NoL S p) (J : List Ob) : NoL (S ++ J) p := by
 rcases h with h | ⟨k, h, hk⟩
 ·exact .inl h
 ·exact .inr ⟨k, h, by rw [List.getElem?_append_left (lt_of_get hk)]; exact hk⟩
section
variable {n : Nat} {S : List Ob} {p : D} {st : Bool}
end
end Go.Proofs.YthkbiiammhekfaaGreatDoor.Dm
namespace Go.Proofs.YthkbiiammhekfaaGreatDoor.Dm
open Go Gw
set_option linter.unusedSimpArgs false
set_option linter.unusedSimpArgs false

section
variable {n : Nat} {S : List Ob} {p : D} {st : Bool}
theorem NoL.set {j : Nat} {o : Ob} (h : NoL S p) (hj : S.length ≤ j) : NoL (S.set j o) p := by
 rcases h with h | ⟨k, h, hk⟩
 ·exact .inl h
 ·have := lt_of_get hk
  exact .inr ⟨k, h, by rw [List.getElem?_set_ne (by omega)]; exact hk⟩
end
/-! ### What is asked of a request -/
end Go.Proofs.YthkbiiammhekfaaGreatDoor.Dm
namespace Go.Proofs.YthkbiiammhekfaaGreatDoor.Dm
open Go Gw
set_option linter.unusedSimpArgs false
set_option linter.unusedSimpArgs false

theorem el_rrow : elemT Tryz.prog 83 = some 115 := by kernel_rfl
theorem sz_rrow : sizeT Tryz.prog 115 = some 7 := by kernel_rfl
theorem ze_rrow : zeroT Tryz.prog 115 = some (.agg [.str (ByteArray.mk #[]), .int .i64 0, .int .i64 0, .str (ByteArray.mk #[]), .str (ByteArray.mk #[]), .bool false, .nils]) := by kernel_rfl
theorem by_rrow : bytesT Tryz.prog 115 ≤ 100000 := of_decide_eq_true (by kernel_rfl)
section
variable {S : List Ob} {lab : Lab} {o k n : Nat} {s : Stk} {rd : D} {rows : List RRow} {id : Lid}
theorem rNew_c {l : List Cfg} {lx : Bool} (hn : 320 ≤ n) (hl : l.length ≤ 30) (hc : ∀ c ∈ l, Sm c) (hz : ∀ c ∈ l, CfgZ (n - 3) c) (hg : cfgL l l.length = []) (hf : FreshL S lab) :
  ∃ T lab' k, (∀ st, callD E (dcall E n) st S 9 [.sl 2 (l.map Cfg.enc) lx] = some (.tup [.loc k 0 0, .nils], T)) ∧ RAt T lab' o k ⟨l, lx, []⟩ ∧ Step o S lab T lab' := by
 obtain ⟨m, rfl⟩ : ∃ m, n = m + 1 := ⟨n - 1, by omega⟩
 obtain ⟨x, hx, cc⟩ := rCheck_c (n := m) (lx := lx) (by omega) hl hc hz
 rw [hg] at hx
 have : WO (dcall E (m + 1) 9 [.sl 2 (l.map Cfg.enc) lx] S) fun d T => d = .tup [.loc S.length 0 0, .nils] ∧ T = S ++ [.row 3 [[.bool true, .sl 2 (l.map Cfg.enc) lx, .nils]]] := by
  refine wo_dcall Tryz.func9 rfl (by decide) rfl 14 rfl (fun a hal ha => ?_)
  have h0 : a[0]? = some (.sl 2 (l.map Cfg.enc) lx) := ha 0 (by simp)
  clear ha
  rcases hx with ⟨rfl, -⟩ | ⟨y, rfl⟩
  ·simp (maxSteps := 1000000) (disch := omega) only [push_cast, ↓wc_seq, ↓wc_condL, ↓wc_region, ↓wr_cons, ↓wr_nil, ↓wo_callf, ↓wc_ret, ↓wc_skip, Nat.reduceAdd, Nat.reduceMul, Nat.reduceLT, Nat.reduceLeDiff, Nat.reduceEqDiff, Int.reduceLT, ↓wo_build, ↓reduceIte, Nat.reduceBEq, reduceCtorEq, gt_iff_lt, hal, h0, cc, Tryz.f9]
  ·simp (maxSteps := 1000000) (disch := omega) only [push_cast, ↓wc_seq, ↓wc_condL, ↓wc_region, ↓wr_cons, ↓wr_nil, ↓wo_callf, ↓wc_ret, ↓wc_skip, Nat.reduceAdd, Nat.reduceMul, Nat.reduceLT, Nat.reduceLeDiff, Nat.reduceEqDiff, Int.reduceLT, ↓wo_build, ↓reduceIte, Nat.reduceBEq, reduceCtorEq, gt_iff_lt, hal, h0, cc, Int.natCast_zero, Tryz.f9]
 obtain ⟨d, T, ho, rfl, rfl⟩ := this
 have s1 := Step.add (o := o) hf (.row 3 [[.bool true, .sl 2 (l.map Cfg.enc) lx, .nils]]) [o, 0]
 refine ⟨_, _, S.length, fun st => (callD_gen rfl).trans ho, ⟨s1.fresh, .nils, [], ?_⟩, s1⟩
 exact ⟨setL_self, get_end, .inl ⟨rfl, rfl⟩, fun r n e => (by cases e), rfl, fun i id x d h => by simp at h⟩
theorem RefAt.add {V : List Ob} {lab2 : Lab} {p : Nat} {x : Leg} {d : D} (h : RefAt S lab o s k rd rows) (hkT : k < S.length)
  (hold : ∀ (z : Nat) (ob : Ob), z < S.length → z ≠ k → (∀ n, rd ≠ .os z 0 n false) → S[z]? = some ob → V[z]? = some ob) (hlab : ∀ z, z < S.length → lab2 z = lab z)
  (hrow : V[k]? = some (.row 3 [[.bool true, .sl 2 (s.l.map Cfg.enc) s.x, .os p 0 (rows.length + 1) false]])) (hp : V[p]? = some (.row 7 ((rows ++ [(id, x, d)]).map rowE))) (hlp : lab2 p = [o, 4]) (ht : TabAt V lab2 o rows.length d x.sold) :
  RefAt V lab2 o { s with legs := s.legs ++ [(id, x)] } k (.os p 0 (rows.length + 1) false) (rows ++ [(id, x, d)]) where
 labk := by rw [hlab k hkT]; exact h.labk
 row := hrow
 gl := .inr ⟨p, by rw [List.length_append]; rfl, hp⟩
 own r n e := by injection e with e1; rw [← e1]; exact hlp
 legs := by rw [List.map_append, h.legs]; rfl
 tab i id' x' d' hi := by
  rcases get_snoc hi with hi | ⟨rfl, e⟩
  ·refine (h.tab i id' x' d' hi).keep fun y ob tl hy hly => ?_
   have hyl := lt_of_get hy
   refine ⟨hold y ob hyl ?_ ?_ hy, hlab y hyl⟩
   ·rintro rfl
    rw [h.labk] at hly
    rcases hly with hly | ⟨z, hly⟩ <;> simp at hly
   ·intro n e
    have := h.own y n e
    rw [this] at hly
    rcases hly with hly | ⟨z, hly⟩ <;> simp at hly
  ·cases e
   exact ht
set_option maxHeartbeats 8000000 in
set_option maxRecDepth 100000 in
theorem rsOpen_d (hn : 180 ≤ n) (h : RAt S lab o k s) (hll : s.legs.length ≤ 100) (hls : s.l.length ≤ 100) (hc : CfgsOk s.l) (e : ByteArray) :
  WO (dcall E (n + 1) 40 [.loc k 0 0, .agg id.enc, .str e] S) fun d T => d = .int .i64 (s.open id e).1 ∧ ∃ lab', RAt T lab' o k (s.open id e).2 ∧ Step o S lab T lab' := by
 obtain ⟨hf, rd, rows, h⟩ := h
 have hrl : rows.length ≤ 100 := by rw [← h.legs, List.length_map] at hll; exact hll
 have hx := h.push [.row 4 [id.enc]]
 have cm := rmade_c (n := n) (by omega) hx
 have ca := rat_c (n := n) (id := id) (by omega) hx hrl
 have hk := hx.row
 have cf := rFind_c (n := n) (l := s.l) (x := s.x) (e := e) (by omega) hls
 refine wo_dcall Tryz.func40 rfl (by decide) rfl 41 rfl (fun a hal ha => ?_)
 have h0 : a[0]? = some (.loc k 0 0) := ha 0 (by simp)
 have h1 : a[1]? = some (.agg id.enc) := ha 1 (by simp)
 have h2 : a[2]? = some (.str e) := ha 2 (by simp)
 clear ha
 unfold Stk.open
 rcases at_rows h id with ⟨g1, g2⟩ | ⟨i, x, d, g1, g2, g3⟩
 case inr =>
  rw [g1]
  rw [g2] at ca
  have hnn : (0 : Int) ≤ i := by omega
  simp only [Lid.enc] at h1 cm ca hk
  simp (maxSteps := 1000000) (disch := omega) only [push_cast, ↓wc_seq, ↓wc_condL, ↓wc_region, ↓wr_cons, ↓wr_nil, ↓wo_callf, ↓wc_ret, ↓wc_skip, Nat.reduceAdd, Nat.reduceMul, Nat.reduceLT, Nat.reduceLeDiff, Nat.reduceEqDiff, ↓reduceIte, Nat.reduceBEq, reduceCtorEq, hal, h0, h1, get_end, cm, ca, hnn, dUn, Tryz.f40]
  exact ⟨lab, ⟨hf.push _, rd, rows, hx⟩, Step.push hf _⟩
 rw [g1]
 rw [g2] at ca
 rcases hfd : findF s.l e with _ | c
 ·rw [hfd] at cf
  simp only [foundC] at cf
  simp only [Lid.enc] at h1 cm ca hk
  simp (maxSteps := 1000000) (disch := omega) only [push_cast, ↓wc_seq, ↓wc_condL, ↓wc_region, ↓wr_cons, ↓wr_nil, ↓wo_callf, ↓wc_ret, ↓wc_skip, Nat.reduceAdd, Nat.reduceMul, Nat.reduceLT, Nat.reduceLeDiff, Nat.reduceEqDiff, Int.reduceNeg, Int.reduceLE, ↓reduceIte, Nat.reduceBEq, reduceCtorEq, hal, h0, h1, h2, get_end, set_end, cm, ca, hk, cf, dUn, ge_iff_le, Tryz.f40]
  exact ⟨lab, ⟨(hf.push _).push _, rd, rows, hx.push _⟩, (Step.push hf _).trans (Step.push (hf.push _) _)⟩
 rw [hfd] at cf
 have hcm : c ∈ s.l := by unfold findF at hfd; exact List.mem_of_find?_eq_some hfd
 have hco := hc.cfg c hcm
 have hx2 := hx.push [.row 2 [c.enc]]
 have hf2 : FreshL (S ++ [Ob.row 4 [id.enc]] ++ [Ob.row 2 [c.enc]]) lab := (hf.push _).push _
 obtain ⟨d, T, lab2, ce, ht, ⟨q, len, rfl⟩, hf3, hl3, hx3⟩ := rempty_c (n := n) (o := o) (i := rows.length) (by omega) hco hf2
 have ht := ht.uncut
 have hxk2 := hx2.row
 have hgT : GL 7 rowE T rd rows := hx2.gl.ext hx3
 obtain ⟨V, ha, hgV, hlenV, hkeepV, -⟩ := app_gl (enc := rowE) el_rrow sz_rrow ze_rrow rfl by_rrow hgT (by omega) (id, ⟨c, false, emptyF c⟩, .os q 0 len false)
 have hkT := hx3 k _ hx2.row
 have hid3 := hx3 S.length (.row 4 [id.enc]) (get_old get_end)
 have hnk : ∀ n, rd = .os k 0 n false → False := fun n e => by
  have := h.own _ _ e
  rw [h.labk] at this
  simp at this
 have hkV := hkeepV k _ hnk hkT
 have hlen3 := hx3.len
 simp only [List.length_append, List.length_cons, List.length_nil] at hlen3
 have hkS := lt_of_get h.row
 have hvk := lt_of_get hkV
 have fin : ∃ lab', RAt (V.set k (.row 3 [[.bool true, .sl 2 (s.l.map Cfg.enc) s.x, .os T.length 0 (rows.length + 1) false]])) lab' o k { s with legs := s.legs ++ [(id, ⟨c, false, emptyF c⟩)] } ∧ Step o S lab (V.set k (.row 3 [[.bool true, .sl 2 (s.l.map Cfg.enc) s.x, .os T.length 0 (rows.length + 1) false]])) lab' := by
  have hold : ∀ (z : Nat) (ob : Ob), z < S.length → z ≠ k → (∀ n, rd ≠ .os z 0 n false) → S[z]? = some ob → (V.set k (.row 3 [[.bool true, .sl 2 (s.l.map Cfg.enc) s.x, .os T.length 0 (rows.length + 1) false]]))[z]? = some ob := fun z ob hz hne hnr hzo => by
   rw [List.getElem?_set_ne (fun e => hne e.symm)]
   exact hkeepV z ob (fun n e => hnr n e) (hx3 z ob (get_old (get_old hzo)))
  have hlb : ∀ z, z < S.length → setL lab2 T.length [o, 4] z = lab z := fun z hz => by
   rw [setL_ne (by omega)]
   exact hl3 z (by rw [List.length_append, List.length_append]; omega)
  have hfr : FreshL (V.set k (.row 3 [[.bool true, .sl 2 (s.l.map Cfg.enc) s.x, .os T.length 0 (rows.length + 1) false]])) (setL lab2 T.length [o, 4]) := fun z hz => by
   rw [List.length_set, hlenV] at hz
   rw [setL_ne (by omega)]
   exact hf3 z (by omega)
  obtain ⟨kk, e1, hVp⟩ : ∃ kk, D.os T.length 0 (rows.length + 1) false = .os kk 0 (rows ++ [(id, (⟨c, false, emptyF c⟩ : Leg), D.os q 0 len false)]).length false ∧ V[kk]? = some (.row 7 ((rows ++ [(id, (⟨c, false, emptyF c⟩ : Leg), D.os q 0 len false)]).map rowE)) := by
   rcases hgV with ⟨e, -⟩ | h
   ·cases e
   ·exact h
  injection e1 with e1
  subst e1
  have hTk : T.length ≠ k := by omega
  refine ⟨setL lab2 T.length [o, 4], ⟨hfr, _, _, h.add hkS hold hlb (List.getElem?_set_self hvk) (by rw [List.getElem?_set_ne hTk.symm]; exact hVp) setL_self (ht.keep fun y ob tl hy hly => ?_)⟩, ⟨by rw [List.length_set, hlenV]; omega, hfr, hlb, fun z hz hne => ?_⟩⟩
  ·have hyT := lt_of_get hy
   rw [setL_ne (by omega)]
   refine ⟨?_, rfl⟩
   rw [List.getElem?_set_ne]
   ·refine hkeepV y ob (fun n e => ?_) hy
    have h1 := h.own y n e
    have hyS : y < S.length := by
     rcases h.gl with ⟨e', -⟩ | ⟨r', e', hr'⟩
     ·rw [e'] at e; cases e
     ·rw [e'] at e; injection e with e2; rw [← e2]; exact lt_of_get hr'
    rw [hl3 y (by rw [List.length_append, List.length_append]; omega), h1] at hly
    rcases hly with hly | ⟨z, hly⟩ <;> simp at hly
   ·rintro rfl
    rw [hl3 k (by rw [List.length_append, List.length_append]; omega), h.labk] at hly
    rcases hly with hly | ⟨z, hly⟩ <;> simp at hly
  ·rw [hold z (S[z]'hz) hz ?_ ?_ (List.getElem?_eq_getElem hz), List.getElem?_eq_getElem hz]
   ·rintro rfl; rw [h.labk] at hne; simp at hne
   ·intro n e
    have := h.own z n e
    rw [this] at hne
    simp at hne
 simp only [foundC] at cf
 simp only [Lid.enc] at h1 cm ca hk hxk2 hid3 ce ha hkT hkV
 simp only [Cfg.enc] at cf hxk2 ce
 simp only [rowE] at ha
 rw [(findF_mem hfd).2] at ha
 simp (maxSteps := 1000000) (disch := omega) only [push_cast, ↓wc_seq, ↓wc_condL, ↓wc_region, ↓wr_cons, ↓wr_nil, ↓wo_callf, ↓wc_ret, ↓wc_skip, Nat.reduceAdd, Nat.reduceMul, Nat.reducePow, Nat.reduceLT, Nat.reduceLeDiff, Nat.reduceEqDiff, Int.reduceNeg, Int.reduceLE, ↓wo_build, ↓wo_buildSlice, ↓reduceIte, Nat.reduceBEq, reduceCtorEq, hal, h0, h1, h2, get_end, get_end0, set_end, cm, ca, hk, hxk2, cf, ce, dUn, ha, hkV, ge_iff_le, Tryz.f40]
 exact fin
end
end Go.Proofs.YthkbiiammhekfaaGreatDoor.Dm
namespace Go.Proofs.YthkbiiammhekfaaGreatDoor.Dm
open Go Gw
set_option linter.unusedSimpArgs false
set_option linter.unusedSimpArgs false

/-! Plans with places laid ahead. -/
/-! What the reference's table without sales adds to a store: the store's length alone matters. -/
def ewid (c : Cfg) (j : Nat) : Nat := ((c.cabs[j]?).map fun y : Cab => y.cls.length).getD 0
def ecells (b : Nat) (c : Cfg) : Nat → List (List D)
 | 0 => []
 | j + 1 => ecells b c j ++ [[.os (b + 1 + 2 * j) 0 (ewid c j) false]]
def ekill (j : Nat) (l : List Ob) : List Ob := if j = 0 then l else l.set (2 * j) .dead
def ejF (b : Nat) (c : Cfg) : Nat → List Ob
 | 0 => [.row 2 [c.enc]]
 | j + 1 => ekill j (ejF b c j) ++ [.row 1 ((List.replicate (ewid c j) (0 : Int)).map encZ)] ++ [.row 1 (ecells b c (j + 1))]
def plan78 : Plan := steps [0, 1, 3] (.both (steps [2] (.both (steps [4] (.step 5 (steps [6, 7] .done))) (.step 5 (steps [4, 6, 7] .done)))) (.step 5 (steps [2, 4, 6, 7] .done)))
section
variable {S : List Ob} {lab : Lab} {o k n : Nat} {s : Stk} {rd : D} {rows : List RRow} {id : Lid}
end
end Go.Proofs.YthkbiiammhekfaaGreatDoor.Dm
namespace Go.Proofs.YthkbiiammhekfaaGreatDoor.Dm
open Go Gw
set_option linter.unusedSimpArgs false
set_option linter.unusedSimpArgs false

section
variable {S : List Ob} {lab : Lab} {o k n : Nat} {s : Stk} {rd : D} {rows : List RRow} {id : Lid} {ids : List Lid}
theorem gen_of {f : FuncId} {args : List D} {Q : D → List Ob → Prop} (hn : 1 ≤ n) (hm : E.mode f = .gen) (h : WO (dcall E (n - 1 + 1) f args S) Q) : ∃ d T, (∀ st, callD E (dcall E n) st S f args = some (d, T)) ∧ Q d T := by
 obtain ⟨d, T, ho, hq⟩ := h
 rw [show n - 1 + 1 = n by omega] at ho
 exact ⟨d, T, fun st => (callD_gen hm).trans ho, hq⟩
theorem RAt.other {S T : List Ob} {lab lab' : Lab} {o o' k : Nat} {s : Stk} (h : RAt S lab o k s) (g : Step o' S lab T lab') (ho : o ≠ o') : RAt T lab' o k s := by
 obtain ⟨-, rd, rows, h⟩ := h
 exact ⟨g.fresh, rd, rows, h.keep (g.keepO ho)⟩
end
end Go.Proofs.YthkbiiammhekfaaGreatDoor.Dm
