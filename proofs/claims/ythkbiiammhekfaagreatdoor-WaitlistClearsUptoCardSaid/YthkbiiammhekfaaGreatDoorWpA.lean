/-
  A waiting list and an inventory as plain data: what calls do, and what they keep.
-/
import Derived.Test.YthkbiiammhekfaaGreatDoorWlL
import Derived.Test.YthkbiiammhekfaaGreatDoorWlM
set_option linter.unusedSimpArgs false
set_option linter.unusedVariables false
namespace Go.Proofs.YthkbiiammhekfaaGreatDoor.Dm
open Go Gw
set_option linter.unusedSimpArgs false
namespace Wl

/-! ### The inventory: nothing is sold beyond the limits -/
structure GoodS (s : Stk) : Prop where
 ok : StkOk 7992 s
 lim : LimOk s
theorem GoodS.ok9 {s : Stk} (h : GoodS s) : StkOk 9999 s := h.ok.mono (by omega)
theorem good_lim {B : Int} {s : Stk} (h : StkOk B s) (hl : LimOk s) : GoodS s := ⟨⟨h.cfgs, h.ids, fun p hp => { h.leg p hp with tot := lim_tot (h.leg p hp) (hl _ _ (mem_get h hp)) }⟩, hl⟩
theorem good_nil {l : List Cfg} {x : Bool} (h : CfgsOk l) : GoodS ⟨l, x, []⟩ := ⟨⟨h, List.nodup_nil, fun p hp => by cases hp⟩, fun id y hy => by cases hy⟩
theorem good_sell {s : Stk} (h : GoodS s) (ids : List Lid) (cl : ByteArray) (w : Int) : GoodS (s.sell ids cl w).2 := by
 by_cases e : (s.sell ids cl w).1 = 0
 ·obtain ⟨h1, h2, h3⟩ := sell_inv e
  obtain ⟨-, -, nd, -⟩ := named_inv h2
  refine good_lim (sell_keeps h.ok ids cl w (W := max w 0) (by omega) (by omega)) ?_
  rw [h1]
  exact add_lim h.ok h.lim nd (.inr h3)
 ·rw [sell_err e]; exact h
theorem good_cancel {s : Stk} (h : GoodS s) (ids : List Lid) (cl : ByteArray) (w : Int) : GoodS (s.cancel ids cl w).2 := by
 by_cases e : (s.cancel ids cl w).1 = 0
 ·obtain ⟨h1, h2⟩ := cancel_inv e
  obtain ⟨hw, -, nd, -⟩ := named_inv h2
  refine good_lim (cancel_keeps h.ok ids cl w) ?_
  rw [h1]
  exact add_lim h.ok h.lim nd (.inl (by omega))
 ·rw [cancel_err e]; exact h
theorem good_open {s : Stk} (h : GoodS s) (id : Lid) (e : ByteArray) : GoodS (s.open id e).2 :=
 good_lim (open_ok h.ok (by omega) id e) (open_lim h.ok h.lim id e).1
theorem sell_l (s : Stk) (ids : List Lid) (cl : ByteArray) (w : Int) : (s.sell ids cl w).2.l = s.l ∧ (s.sell ids cl w).2.legs.length = s.legs.length := by
 unfold Stk.sell
 split
 ·exact ⟨rfl, rfl⟩
 ·split
  ·exact ⟨rfl, rfl⟩
  ·exact ⟨rfl, addIds_len _ _ _ _⟩
theorem cancel_l (s : Stk) (ids : List Lid) (cl : ByteArray) (w : Int) : (s.cancel ids cl w).2.l = s.l ∧ (s.cancel ids cl w).2.legs.length = s.legs.length := by
 unfold Stk.cancel
 split
 ·exact ⟨rfl, rfl⟩
 ·split
  ·exact ⟨rfl, rfl⟩
  ·exact ⟨rfl, addIds_len _ _ _ _⟩
theorem open_l (s : Stk) (id : Lid) (e : ByteArray) : (s.open id e).2.l = s.l ∧ (s.open id e).2.legs.length ≤ s.legs.length + 1 := by
 unfold Stk.open
 split
 ·exact ⟨rfl, by dsimp only; omega⟩
 ·split
  ·exact ⟨rfl, by dsimp only; omega⟩
  ·exact ⟨rfl, by simp⟩
/-! ### A sale leaves nobody more -/
theorem avF_mono {y : Cab} {r r' : List Int} (h : ∀ j, spF y r' j ≤ spF y r j) : ∀ k, avF y r' k ≤ avF y r k
 | 0 => h 0
 | k + 1 => by
  have := avF_mono h k
  have := h (k + 1)
  unfold avF
  omega
theorem leftF_add {l : List Cfg} {B : Int} {x : Leg} (ok : LegOk l B x) {cl : ByteArray} {w : Int} (hw : 0 ≤ w) (cl' : ByteArray) : leftF (addL cl w x) cl' ≤ leftF x cl' := by
 unfold addL
 cases hp : placeF cl 0 x.cfg.cabs with
 | none => exact Int.le_refl _
 | some q =>
  obtain ⟨i, k⟩ := q
  obtain ⟨y, r, z, v, h1, h2, h3, h4, h5, h6, h7⟩ := ok.at_ hp
  have hk : k < r.length := (List.getElem?_eq_some_iff.1 h5).1
  unfold leftF
  dsimp only
  cases hp' : placeF cl' 0 x.cfg.cabs with
  | none => exact Int.le_refl _
  | some q' =>
   obtain ⟨i', k'⟩ := q'
   dsimp only
   simp only [addAt, modify_at]
   cases hy : x.cfg.cabs[i']? with
   | none => exact Int.le_refl _
   | some y' =>
    cases hr : x.sold[i']? with
    | none => exact Int.le_refl _
    | some r' =>
     simp only [Option.map_some]
     by_cases e : i = i'
     ·subst e
      rw [h2] at hr
      obtain rfl := Option.some.inj hr
      rw [if_pos rfl]
      have := avF_mono (y := y') (r := r) (r' := r.modify k (· + w)) (fun j => by
       rw [spF_add y' r k w j hk]
       split <;> omega) k'
      omega
     ·rw [if_neg e]; exact Int.le_refl _
theorem left_sell {s : Stk} (h : GoodS s) (ids : List Lid) (cl : ByteArray) (w : Int) (id : Lid) (cl' : ByteArray) : (s.sell ids cl w).2.left id cl' ≤ s.left id cl' := by
 by_cases e : (s.sell ids cl w).1 = 0
 case neg => rw [sell_err e]; exact Int.le_refl _
 obtain ⟨h1, h2, h3⟩ := sell_inv e
 obtain ⟨hw, -, nd, -⟩ := named_inv h2
 rw [h1]
 have hg : Stk.get { s with legs := addIds cl w ids s.legs } id = if id ∈ ids then (s.get id).map (addL cl w) else s.get id := getL_addIds cl w id ids s.legs nd
 unfold Stk.left
 rw [hg]
 by_cases hin : id ∈ ids
 ·rw [if_pos hin]
  cases hx : s.get id with
  | none => exact Int.le_refl _
  | some x =>
   simp only [Option.map_some]
   have hcl : (addL cl w x).closed = x.closed := by unfold addL; split <;> rfl
   rw [hcl]
   split
   ·exact Int.le_refl _
   ·exact leftF_add (h.ok.get hx) (by omega) cl'
 ·rw [if_neg hin]; exact Int.le_refl _
theorem served_iff {s : Stk} {x : Wt} : servedF s x = true ↔ ∀ w ∈ x.legs, x.cnt ≤ s.left w x.cl := by
 unfold servedF
 rw [Bool.not_eq_true', List.any_eq_false]
 simp
theorem served_sell {s : Stk} (h : GoodS s) {x : Wt} (hx : servedF s x = false) (ids : List Lid) (cl : ByteArray) (w : Int) : servedF (s.sell ids cl w).2 x = false := by
 cases e : servedF (s.sell ids cl w).2 x with
 | false => rfl
 | true =>
  rw [served_iff] at e
  have : servedF s x = true := served_iff.2 fun v hv => by
   have h1 := e v hv
   have h2 := left_sell h ids cl w v x.cl
   omega
  rw [hx] at this
  cases this
theorem validB_iff {x : Wt} : validB x = true ↔ 1 ≤ x.id ∧ x.legs ≠ [] ∧ 1 ≤ x.cnt ∧ x.cnt ≤ 99 ∧ x.legs.Nodup := by
 simp only [validB, Bool.and_eq_true, decide_eq_true_eq]
 constructor
 ·rintro ⟨⟨⟨⟨h1, h2⟩, h3⟩, h4⟩, h5⟩; exact ⟨h1, h2, h3, h4, h5⟩
 ·rintro ⟨h1, h2, h3, h4, h5⟩; exact ⟨⟨⟨⟨h1, h2⟩, h3⟩, h4⟩, h5⟩
theorem served_ok {s : Stk} {x : Wt} (hv : validB x = true) (h : servedF s x = true) : (s.sell x.legs x.cl x.cnt).1 = 0 := by
 obtain ⟨h1, h2, h3, h4, h5⟩ := validB_iff.1 hv
 rw [sell_ok h3 h2 h5 (served_iff.1 h)]
/-! ### The list -/
theorem idxF_lt {id : Int} : ∀ {l : List Wt}, idxF id l < 0 → ∀ y ∈ l, y.id ≠ id
 | [], _, y, hy => by cases hy
 | z :: l, h, y, hy => by
  unfold idxF at h
  split at h
  ·omega
  ·rename_i hz
   rcases List.mem_cons.1 hy with rfl | hy
   ·exact hz
   ·split at h
    ·exact idxF_lt (by assumption) y hy
    ·omega
theorem idxF_ge {id : Int} : ∀ {l : List Wt}, ¬ idxF id l < 0 → ∃ (i : Nat) (y : Wt), idxF id l = i ∧ l[i]? = some y ∧ y.id = id
 | [], h => by unfold idxF at h; omega
 | z :: l, h => by
  unfold idxF at h ⊢
  by_cases hz : z.id = id
  ·rw [if_pos hz]; exact ⟨0, z, rfl, rfl, hz⟩
  ·rw [if_neg hz] at h ⊢
   by_cases hl : idxF id l < 0
   ·rw [if_pos hl] at h; omega
   ·obtain ⟨i, y, h1, h2, h3⟩ := idxF_ge hl
    rw [if_neg hl, h1]
    exact ⟨i + 1, y, by simp, by simpa using h2, h3⟩
structure GoodW (l : List Wt) : Prop where
 ord : OrdL l
 nd : (l.map (·.id)).Nodup
 ok : ∀ y ∈ l, validB y = true ∧ y.legs.length ≤ 6 ∧ (∀ w ∈ y.legs, w.Ok) ∧ y.legsx = false
theorem GoodW.nil : GoodW [] := ⟨fun i j y z _ h => by simp at h, List.nodup_nil, fun y h => by cases h⟩
theorem GoodW.sub {l l' : List Wt} (h : GoodW l) (hs : l'.Sublist l) : GoodW l' :=
 ⟨ordL_iff.2 ((ordL_iff.1 h.ord).sublist hs), h.nd.sublist (hs.map _), fun y hy => h.ok y (hs.subset hy)⟩
theorem insL_perm (x : Wt) (l : List Wt) : (insL x l).Perm (x :: l) := by
 unfold insL
 have h1 : (l.take (posF x l) ++ [x] ++ l.drop (posF x l)).Perm ([x] ++ l.take (posF x l) ++ l.drop (posF x l)) := List.Perm.append_right _ List.perm_append_comm
 refine h1.trans ?_
 rw [List.append_assoc, List.take_append_drop]
 exact List.Perm.refl _
def joinF (l : List Wt) (x : Wt) : Int × List Wt := if validB x = false then (2, l) else if idxF x.id l < 0 then (0, insL x l) else (6, l)
theorem good_join {l : List Wt} {x : Wt} (h : GoodW l) (h1 : x.legs.length ≤ 6) (h2 : ∀ w ∈ x.legs, w.Ok) (h3 : x.legsx = false) : GoodW (joinF l x).2 ∧ (joinF l x).2.length ≤ l.length + 1 := by
 unfold joinF
 split
 ·exact ⟨h, by dsimp only; omega⟩
 ·rename_i hv
  have hv : validB x = true := by simpa using hv
  split
  ·rename_i hi
   have hne := idxF_lt hi
   have hp := insL_perm x l
   refine ⟨⟨insL_ord h.ord hne, ?_, fun y hy => ?_⟩, ?_⟩
   ·show ((insL x l).map (·.id)).Nodup
    rw [(hp.map (·.id)).nodup_iff, List.map_cons, List.nodup_cons]
    refine ⟨fun hm => ?_, h.nd⟩
    obtain ⟨y, hy, e⟩ := List.mem_map.1 hm
    exact hne y hy e
   ·rcases insL_mem hy with rfl | hy
    ·exact ⟨hv, h1, h2, h3⟩
    ·exact h.ok y hy
   ·show (insL x l).length ≤ _
    rw [hp.length_eq, List.length_cons]; exact Nat.le_refl _
  ·exact ⟨h, by dsimp only; omega⟩
def remF (l : List Wt) (id : Int) : List Wt := if idxF id l < 0 then l else l.take (idxF id l).toNat ++ l.drop ((idxF id l).toNat + 1)
theorem rem_sub (l : List Wt) (id : Int) : (remF l id).Sublist l := by
 unfold remF
 split
 ·exact List.Sublist.refl _
 ·rw [← List.eraseIdx_eq_take_drop_succ]
  exact List.eraseIdx_sublist _ _
theorem idxF_at {l : List Wt} (h : (l.map (·.id)).Nodup) {i : Nat} {y : Wt} (hy : l[i]? = some y) : idxF y.id l = i := by
 refine idxF_hit hy rfl fun k z hk hz e => ?_
 have h1 : (l.map (·.id))[k]? = some y.id := by rw [List.getElem?_map, hz]; simp [e]
 have h2 : (l.map (·.id))[i]? = some y.id := by rw [List.getElem?_map, hy]; rfl
 have := (List.getElem?_inj (lt_of_get h1) h).1 (h1.trans h2.symm)
 omega
/-! ### Clear -/
def clrS (a : List Wt × List Wt × Stk) (y : Wt) : List Wt × List Wt × Stk :=
 if servedF a.2.2 y = true then (a.1 ++ [y], a.2.1, (a.2.2.sell y.legs y.cl y.cnt).2) else (a.1, a.2.1 ++ [y], a.2.2)
def clrF (s : Stk) (l : List Wt) : List Wt × List Wt × Stk := l.foldl clrS ([], [], s)
theorem clrF_succ {s : Stk} {l : List Wt} {i : Nat} {y : Wt} (h : l[i]? = some y) : clrF s (l.take (i + 1)) = clrS (clrF s (l.take i)) y := by
 unfold clrF
 rw [List.take_add_one, h]
 simp
theorem clrF_snoc (s : Stk) (l : List Wt) (y : Wt) : clrF s (l ++ [y]) = clrS (clrF s l) y := by
 unfold clrF
 simp
theorem list_rev {p : List Wt → Prop} (h0 : p []) (h1 : ∀ l y, p l → p (l ++ [y])) (l : List Wt) : p l := by
 have : ∀ n, p (l.take n) := fun n => by
  induction n with
  | zero => exact h0
  | succ n ih =>
   rw [List.take_add_one]
   cases h : l[n]? with
   | none => simpa using ih
   | some y => exact h1 _ y ih
 have := this l.length
 rwa [List.take_length] at this
theorem clr_good {s : Stk} (h : GoodS s) (l : List Wt) : GoodS (clrF s l).2.2 ∧ (clrF s l).2.2.l = s.l ∧ (clrF s l).2.2.legs.length = s.legs.length := by
 induction l using list_rev with
 | h0 => exact ⟨h, rfl, rfl⟩
 | h1 l y ih =>
  rw [clrF_snoc]
  unfold clrS
  split
  ·exact ⟨good_sell ih.1 _ _ _, (sell_l _ _ _ _).1.trans ih.2.1, (sell_l _ _ _ _).2.trans ih.2.2⟩
  ·exact ih
theorem clr_sub (s : Stk) (l : List Wt) : (clrF s l).1.Sublist l ∧ (clrF s l).2.1.Sublist l ∧ (clrF s l).1.length + (clrF s l).2.1.length = l.length := by
 induction l using list_rev with
 | h0 => exact ⟨List.Sublist.refl _, List.Sublist.refl _, rfl⟩
 | h1 l y ih =>
  rw [clrF_snoc]
  obtain ⟨i1, i2, i3⟩ := ih
  unfold clrS
  split
  ·refine ⟨i1.append (List.Sublist.refl _), i2.trans (List.sublist_append_left _ _), ?_⟩
   simp only [List.length_append, List.length_cons, List.length_nil]; omega
  ·refine ⟨i1.trans (List.sublist_append_left _ _), i2.append (List.Sublist.refl _), ?_⟩
   simp only [List.length_append, List.length_cons, List.length_nil]; omega
theorem clr_none {s : Stk} (h : GoodS s) (l : List Wt) : ∀ y ∈ (clrF s l).2.1, servedF (clrF s l).2.2 y = false := by
 induction l using list_rev with
 | h0 => intro y hy; cases hy
 | h1 l y ih =>
  rw [clrF_snoc]
  have hg := (clr_good h l).1
  unfold clrS
  split
  ·intro z hz
   exact served_sell hg (ih z hz) _ _ _
  ·rename_i hs
   intro z hz
   rcases List.mem_append.1 hz with hz | hz
   ·exact ih z hz
   ·obtain rfl : z = y := by simpa using hz
    simpa using hs
theorem clr_no {s : Stk} {l : List Wt} (h : ∀ y ∈ l, servedF s y = false) : clrF s l = ([], l, s) := by
 induction l using list_rev with
 | h0 => rfl
 | h1 l y ih =>
  rw [clrF_snoc, ih fun z hz => h z (List.mem_append_left _ hz)]
  have := h y (by simp)
  unfold clrS
  rw [if_neg (by simp [this])]
theorem clr_head {s : Stk} {l : List Wt} {i : Nat} {y : Wt} (hy : l[i]? = some y) (h1 : servedF s y = true) (h0 : ∀ (j : Nat) z, j < i → l[j]? = some z → servedF s z = false) : ∃ o, (clrF s l).1 = y :: o := by
 have hi := lt_of_get hy
 have hno : clrF s (l.take i) = ([], l.take i, s) := clr_no fun z hz => by
  obtain ⟨j, hj⟩ := List.mem_iff_getElem?.1 hz
  have hji : j < i := by have := lt_of_get hj; rw [List.length_take] at this; omega
  rw [List.getElem?_take_of_lt hji] at hj
  exact h0 j z hji hj
 have hone : (clrF s (l.take (i + 1))).1 = [y] := by
  rw [clrF_succ hy, hno]
  unfold clrS
  rw [if_pos h1]; rfl
 have grow : ∀ r, ∃ o, (clrF s (l.take (i + 1) ++ r)).1 = y :: o := fun r => by
  induction r using list_rev with
  | h0 => rw [List.append_nil]; exact ⟨[], hone⟩
  | h1 r z ih =>
   obtain ⟨o, ho⟩ := ih
   rw [← List.append_assoc, clrF_snoc]
   unfold clrS
   split
   ·exact ⟨o ++ [z], by rw [ho]; rfl⟩
   ·exact ⟨o, ho⟩
 have := grow (l.drop (i + 1))
 rwa [List.take_append_drop] at this
/-! ### Calls -/
structure Evt where
 kind : Int
 n : Int
 x : Wt
 eq : ByteArray
def Evt.enc (r : Evt) : List D := [.int .i64 r.kind, .int .i64 r.n, .int .i64 r.x.id, .sl 4 (r.x.legs.map Lid.enc) r.x.legsx, .str r.x.cl, .int .i64 r.x.cnt, .int .i64 r.x.rk, .str r.eq]
structure Evt.Ok (r : Evt) : Prop where
 legs : r.x.legs.length ≤ 6
 lid : ∀ w ∈ r.x.legs, w.Ok
 fl : r.x.legsx = false
def stepF (a : Stk × List Wt) (e : Evt) : Stk × List Wt :=
 if e.kind = 0 then (a.1, (joinF a.2 e.x).2)
 else if e.kind = 1 then (a.1, remF a.2 e.n)
 else if e.kind = 2 then a
 else if e.kind = 3 then ((clrF a.1 a.2).2.2, (clrF a.1 a.2).2.1)
 else if e.kind = 4 then ((match e.x.legs with | [] => a.1 | w :: _ => (a.1.open w e.eq).2), a.2)
 else if e.kind = 5 then ((a.1.sell e.x.legs e.x.cl e.x.cnt).2, a.2)
 else if e.kind = 6 then ((a.1.cancel e.x.legs e.x.cl e.x.cnt).2, a.2)
 else a
structure Inv (l : List Cfg) (c : Nat) (a : Stk × List Wt) : Prop where
 s : GoodS a.1
 w : GoodW a.2
 n : a.2.length ≤ c
 m : a.1.legs.length ≤ c
 l : a.1.l = l
theorem inv_step {l : List Cfg} {c : Nat} {a : Stk × List Wt} (h : Inv l c a) {e : Evt} (he : e.Ok) : Inv l (c + 1) (stepF a e) := by
 have hn := h.n
 have hm := h.m
 have same : Inv l (c + 1) a := ⟨h.s, h.w, by omega, by omega, h.l⟩
 unfold stepF
 split
 ·have := good_join h.w he.legs he.lid he.fl
  exact ⟨h.s, this.1, by have := this.2; dsimp only; omega, by dsimp only; omega, h.l⟩
 split
 ·have := rem_sub a.2 e.n
  exact ⟨h.s, h.w.sub this, by have := this.length_le; dsimp only; omega, by dsimp only; omega, h.l⟩
 split
 ·exact same
 split
 ·obtain ⟨c1, c2, c3⟩ := clr_good h.s a.2
  have := (clr_sub a.1 a.2).2.1
  exact ⟨c1, h.w.sub this, by have := this.length_le; dsimp only; omega, by dsimp only; omega, c2.trans h.l⟩
 split
 ·cases e.x.legs with
  | nil => exact same
  | cons w r =>
   have := open_l a.1 w e.eq
   exact ⟨good_open h.s w e.eq, h.w, by dsimp only; omega, by dsimp only; omega, this.1.trans h.l⟩
 split
 ·have := sell_l a.1 e.x.legs e.x.cl e.x.cnt
  exact ⟨good_sell h.s _ _ _, h.w, by dsimp only; omega, by dsimp only; omega, this.1.trans h.l⟩
 split
 ·have := cancel_l a.1 e.x.legs e.x.cl e.x.cnt
  exact ⟨good_cancel h.s _ _ _, h.w, by dsimp only; omega, by dsimp only; omega, this.1.trans h.l⟩
 ·exact same
def playE (a : Stk × List Wt) (es : List Evt) : Stk × List Wt := es.foldl stepF a
theorem playE_succ {a : Stk × List Wt} {es : List Evt} {i : Nat} {e : Evt} (h : es[i]? = some e) : playE a (es.take (i + 1)) = stepF (playE a (es.take i)) e := by
 unfold playE
 rw [List.take_add_one, h]
 simp
end Wl
end Go.Proofs.YthkbiiammhekfaaGreatDoor.Dm
