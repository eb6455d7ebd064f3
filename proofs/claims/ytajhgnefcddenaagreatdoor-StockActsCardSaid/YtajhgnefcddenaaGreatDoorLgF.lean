/-
  The machine: a list that a call has made in the caller's store is frozen, and all else that the call has made is let go.
  The machine at Legs: whichever way the map's order goes, the identifiers of the legs in order.
  Legs as a known function: the identifiers of the legs in order, as plain data.
-/
import Derived.Test.YtajhgnefcddenaaGreatDoorDmC
import Derived.Test.YtajhgnefcddenaaGreatDoorLgS
import Derived.Test.YtajhgnefcddenaaGreatDoorMw
namespace Go.Proofs.YtajhgnefcddenaaGreatDoor.Dm
open Go

/-- All objects of a store but one are let go. -/
def onlyAt (k : Nat) (T : List Ob) : List Ob := (List.range T.length).map fun j => if j = k then (T[j]?).getD .dead else .dead
theorem onlyAt_get {k : Nat} {T : List Ob} {j : Nat} {ob : Ob} (h : (onlyAt k T)[j]? = some ob) (hd : ob ≠ .dead) : j = k ∧ T[j]? = some ob := by
  unfold onlyAt at h
  rw [List.getElem?_map] at h
  obtain ⟨i, hi, he⟩ := Option.map_eq_some_iff.1 h
  obtain ⟨hl, hi'⟩ := List.getElem?_eq_some_iff.1 hi
  simp only [List.getElem_range] at hi'
  subst hi'
  simp only [List.length_range] at hl
  split at he
  · rename_i e
    refine ⟨e, ?_⟩
    rw [List.getElem?_eq_getElem hl] at he ⊢
    simpa using he
  · exact absurd he.symm hd
theorem onlyAt_self {k : Nat} {T : List Ob} {ob : Ob} (h : T[k]? = some ob) : (onlyAt k T)[k]? = some ob := by
  have hl := (List.getElem?_eq_some_iff.1 h).1
  unfold onlyAt
  rw [List.getElem?_map, List.getElem?_range hl]
  simp [h]
theorem SR.only {W : World} {C : Cx} {T : List Ob} (h : SR W C T) (k : Nat) : SR W C (onlyAt k T) where
  ob j ob hj hd := h.ob j ob (onlyAt_get hj hd).2 hd
  fresh j x hx := by
    have := h.fresh j x hx
    unfold onlyAt
    simpa using this
  inj j j' ob ob' x x' hj hd hj' hd' := h.inj j j' ob ob' x x' (onlyAt_get hj hd).2 hd (onlyAt_get hj' hd').2 hd'
  imm := h.imm
theorem ObR.toOldI {W W' : World} {C C1 C2 : Cx} {g sz tot : Nat} {T' : TypeId} {ob : Ob} (hR : ∀ k x, C.R k = some x → C1.R k = some x) (hR2 : C2.R = C.R) (hP : C2.P = C1.P) (hI : ∀ b, C1.I b → C2.I b) (h2 : ObR W C g sz tot T' ob) (q2 : ObR W' C1 g sz tot T' ob) : ObR W' C2 g sz tot T' ob := by
  have up : ∀ {a : D} {u0 u1 : Value}, VR W C a u0 → VR W' C1 a u1 → VR W' C2 a u1 := fun {a u0 u1} h0 h1 => by
    have this : VR W' ⟨C1.P, C.R, C1.I⟩ a u1 := h1.toOld hR h0
    exact VR.mono (C := ⟨C1.P, C.R, C1.I⟩) (C' := C2) (fun b hb => ⟨hI b hb, rfl⟩) (fun k x hx => by rw [hR2]; exact hx) this
  cases ob with
  | dead => trivial
  | row s es =>
    obtain ⟨a1, a2, a3, vs0, a4, a5, a6⟩ := h2
    obtain ⟨b1, b2, b3, vs1, b4, b5, b6⟩ := q2
    refine ⟨b1, b2, b3, vs1, b4, b5, fun i j e c he hc => ?_⟩
    obtain ⟨u0, -, hu0, -⟩ := a6 i j e c he hc
    obtain ⟨u1, hu1, hr1, ho1⟩ := b6 i j e c he hc
    exact ⟨u1, hu1, up hu0 hr1, ho1⟩
  | map kt l =>
    obtain ⟨es0, cl0, m0, a1, a1', -, a2, a3, a4, a5⟩ := h2
    obtain ⟨es1, cl1, m1, b1, b1', b1'', b2, b3, b4, b5⟩ := q2
    refine ⟨es1, cl1, m1, b1, b1', b1'', b2, by rw [hP]; exact b3, b4, fun i p e hp he => ?_⟩
    obtain ⟨i0, hp0⟩ := List.mem_iff_getElem?.1 (a1'.mem_iff.2 (b1'.mem_iff.1 (List.mem_of_getElem? hp)))
    have hil : i0 < es0.size := by rw [← a2]; exact (List.getElem?_eq_some_iff.1 hp0).1
    have h0 := a5 i0 p _ hp0 (Array.getElem?_eq_getElem hil)
    have h1' := b5 i p e hp he
    exact ⟨up h0.1 h1'.1, up h0.2 h1'.2⟩
/-- What a call has made is let go, but for one list, that is frozen. -/
theorem let_go {W W' : World} {C C1 : Cx} {S T : List Ob} {k n : Nat} {d d' : D} {v : Value} (hs : SR W C S) (hs1 : SR W' C1 T) (hf : Fr W C S W' C1 T) (hkeep : ∀ (j : Nat) (ob : Ob), S[j]? = some ob → T[j]? = some ob) (hk : S.length ≤ k) (hfz : freeze (onlyAt k T) n d = some d') (hv : VR W' C1 d v) :
    ∃ C', VR W' C' d' v ∧ SR W' C' S ∧ Fr W C S W' C' S := by
  have ho := hs1.only k
  have hlive : ∀ b, Live C1 (onlyAt k T) b → Live C1 T b := fun b ⟨j, ob, s, t, T', h1, h2, h3⟩ => ⟨j, ob, s, t, T', (onlyAt_get h1 h2).2, h2, h3⟩
  have hnew : ∀ b, Live C1 (onlyAt k T) b → ¬ Live C S b := by
    rintro b ⟨j, ob, s, t, T', h1, h2, h3⟩ ⟨j', ob', s', t', T'', g1, g2, g3⟩
    obtain ⟨e, q1⟩ := onlyAt_get h1 h2
    subst e
    have := hs1.inj j j' ob ob' _ _ q1 h2 (hkeep _ _ g1) g2 h3 (hf.R _ _ g3) rfl
    subst this
    have := (List.getElem?_eq_some_iff.1 g1).1
    omega
  have hI1 : ∀ b, (C1.froze (onlyAt k T) C.R).I b → C.I b ∨ W.heap.size ≤ b := by
    rintro b (hb | hb)
    · exact hf.newI b hb
    · rcases hf.live b (hlive b hb) with hl | hl
      · exact absurd hl (hnew b hb)
      · exact .inr hl
  refine ⟨C1.froze (onlyAt k T) C.R, freeze_vr ho _ hfz hv, ⟨fun j ob hj hd => ?_, hs.fresh, hs.inj, fun b hb => ?_⟩, ⟨hf.os, hf.tape, hf.output, hf.size, hf.keep, fun b hb => .inl hb, fun k x hx => hx, fun g hg => .inl (hf.I g hg), hf.P, hI1, Nat.le_refl _, fun _ _ h => .inl h⟩⟩
  · obtain ⟨g, sz, tot, T', h1, h2, h3, h4⟩ := hs.ob j ob hj hd
    obtain ⟨g', sz', tot', T'', q1, q2, q3, q4⟩ := hs1.ob j ob (hkeep j ob hj) hd
    have e1 := hf.R j _ h1
    rw [q1] at e1
    cases e1
    refine ⟨g, sz, tot, T', h1, ObR.toOldI (C := C) (C1 := C1) hf.R rfl rfl (fun b hb => .inl hb) h2 q2, ?_, q4⟩
    rintro (hb | hb)
    · exact q3 hb
    · exact hnew g hb ⟨j, ob, sz, tot, T', hj, hd, h1⟩
  · rcases hb with hb | hb
    · exact hs1.imm b hb
    · exact hs1.live_lt (hlive b hb)
end Go.Proofs.YtajhgnefcddenaaGreatDoor.Dm
namespace Go.Proofs.YtajhgnefcddenaaGreatDoor.Dm
open Go Gw
set_option linter.unusedSimpArgs false
set_option linter.unusedSimpArgs false

theorem MW.wc {E : Env} {call : Call} (hE : EnvOk E) (hC : CallOk E call) {n : Nat} {c : Code} {act : List D} {S : List Ob} {Q : DX → List D → List Ob → Prop} (hl : linC E c = true) (h : WC (codeD E call n c act S) Q) : MW E c Q act S := by
  obtain ⟨e, a, T, h, hq⟩ := h
  exact MW.of hE hC hl h hq
theorem MW.cut {E : Env} {call : Call} (hE : EnvOk E) (hC : CallOk E call) {n : Nat} {x y : Code} {act : List D} {S : List Ob} {Q : DX → List D → List Ob → Prop} (P : List D → List Ob → Prop) (hl : linC E x = true) (h : WC (codeD E call n x act S) fun r a T => r = .normal ∧ P a T) (k : ∀ a T, P a T → MW E y Q a T) : MW E (.seq x y) Q act S := by
  refine MW.seq (MW.wc hE hC hl (wc_mono h ?_))
  rintro r a T ⟨rfl, hp⟩
  exact k a T hp
/-- The rule for a range over a map, from what the machine's rules give. -/
theorem MW.range_w {E : Env} {call : Call} (hE : EnvOk E) (hC : CallOk E call) {n i4 i5 i6 b0 b1 it tn tk te : Nat} {ops4 ops5 ops6 : Array Oper} {rest6 : List Oper} {o4 o5 o5' o6 : Oper} {x4 : Operand} {t4 kt et : TypeId} {REST : Code}
    (h4 : ops4.toList.getLast? = some o4) (q4 : o4.op = .range t4 x4 ∧ o4.guard = none ∧ o4.dst = some it)
    (h5 : ops5.toList = [o5, o5']) (q5 : o5.op = .next (.tmp it) false ∧ o5.guard = none ∧ o5.dst = some tn) (q5' : o5'.op = .extract (.tmp tn) 0 ∧ o5'.guard = none ∧ o5'.dst = some tk)
    (h6 : ops6.toList = o6 :: rest6) (q6 : o6.op = .entry (.tmp it) ∧ o6.guard = none ∧ o6.dst = some te) (hne : it ≠ tn ∧ it ≠ tk ∧ it ≠ te)
    (hlin : linC E REST = true) (hu : E.P.underlying t4 = some (.map kt et))
    {act : List D} {S : List Ob} {r : Nat} {l : List (D × D)} (hr : S[r]? = some (.map kt l)) (P1 : List D → Prop)
    (hpre : WR (runD E call false ops4 ops4.toList.dropLast act S) fun a1 S1 => S1 = S ∧ evD E a1 x4 = .map r ∧ P1 a1)
    (I : List (D × D) → List (D × D) → List D → List Ob → Prop) {Q : DX → List D → List Ob → Prop}
    (h0 : ∀ m a1, P1 a1 → m.Perm l → I [] m (a1.set it (.loc S.length 0 0)) (S.set r .dead ++ [.dead]))
    (hI : ∀ done todo a T, I done todo a T → a[it]? = some (.loc S.length 0 0) ∧ tn < a.length ∧ tk < a.length ∧ T[r]? = some .dead)
    (hstep : ∀ done todo j p a T, (done ++ todo).Perm l → I done todo a T → todo[j]? = some p → WR (runD E call false ops6 rest6 (((a.set tn (.tup [.bool true, p.1, p.2])).set tk (.bool true)).set te (.tup [p.1, p.2])) T) fun a2 T2 =>
      WC (codeD E call n REST a2 T2) fun e a3 T3 => e = .normal ∧ I (done ++ [p]) (todo.eraseIdx j) a3 T3)
    (hend : ∀ done a T, done.Perm l → I done [] a T → Q .normal ((a.set tn (.tup [.bool false])).set tk (.bool false)) (T.set r (.map kt l))) :
    MW E (.seq (.region i4 ops4 false) (.block b0 (.loop (.seq (.region i5 ops5 false) (.seq (.cond (.tmp tk) .skip (.exit b0)) (.block b1 (.seq (.region i6 ops6 false) REST))))))) Q act S := by
  obtain ⟨a1, S1, hrun, rfl, hx, hp1⟩ := hpre
  have h4' : ops4.toList = ops4.toList.dropLast ++ [o4] := by
    have hne : ops4.toList ≠ [] := fun h0 => by rw [h0] at h4; cases h4
    have := List.dropLast_concat_getLast hne
    rw [List.getLast?_eq_some_getLast hne] at h4
    cases h4
    exact this.symm
  refine MW.range hE hC (n := n) h4' q4 h5 q5 q5' h6 q6 hne hlin hu hrun hx hr I (fun m hm => h0 m a1 hp1 hm) hI (fun done todo j p a T hp hi hj => ?_) hend
  obtain ⟨a2, T2, h2, e, a3, T3, h3, rfl, hi3⟩ := hstep done todo j p a T hp hi hj
  exact ⟨a2, T2, h2, a3, T3, h3, hi3⟩
namespace Lg
def sortL (l : List Lid) : List Lid := l.mergeSort fun x y => !lt cmpL y x
/-! ### The order -/
structure CO {α : Type} (c : α → α → Int) : Prop where
  refl : ∀ x, c x x = 0
  eq0 : ∀ x y, c x y = 0 → x = y
  anti : ∀ x y, c x y < 0 ↔ 0 < c y x
  trans : ∀ x y z, c x y < 0 → c y z < 0 → c x z < 0
def lexP {α β : Type} (c1 : α → α → Int) (c2 : β → β → Int) (p q : α × β) : Int := if c1 p.1 q.1 ≠ 0 then c1 p.1 q.1 else c2 p.2 q.2
theorem CO.lex {α β : Type} {c1 : α → α → Int} {c2 : β → β → Int} (h1 : CO c1) (h2 : CO c2) : CO (lexP c1 c2) where
  refl p := by simp [lexP, h1.refl, h2.refl]
  eq0 p q h := by
    unfold lexP at h
    by_cases e : c1 p.1 q.1 = 0
    · rw [if_neg (by simpa using e)] at h
      exact Prod.ext (h1.eq0 _ _ e) (h2.eq0 _ _ h)
    · rw [if_pos e] at h
      exact absurd h e
  anti p q := by
    unfold lexP
    by_cases e : c1 p.1 q.1 = 0
    · have e1 := h1.eq0 _ _ e
      have e2 : c1 q.1 p.1 = 0 := by rw [e1]; exact h1.refl _
      rw [if_neg (by simpa using e), if_neg (by simpa using e2)]
      exact h2.anti _ _
    · have e2 : ¬ c1 q.1 p.1 = 0 := fun e2 => by
        have := h1.eq0 _ _ e2
        rw [this] at e
        exact e (h1.refl _)
      rw [if_pos e, if_pos e2]
      exact h1.anti _ _
  trans p q r hpq hqr := by
    unfold lexP at *
    by_cases e : c1 p.1 q.1 = 0
    · rw [if_neg (by simpa using e)] at hpq
      have e1 := h1.eq0 _ _ e
      rw [← e1] at hqr
      by_cases e' : c1 p.1 r.1 = 0
      · rw [if_neg (by simpa using e')] at hqr ⊢
        exact h2.trans _ _ _ hpq hqr
      · rw [if_pos e'] at hqr ⊢
        exact hqr
    · rw [if_pos e] at hpq
      by_cases e' : c1 q.1 r.1 = 0
      · have e1 := h1.eq0 _ _ e'
        rw [← e1, if_pos e]
        exact hpq
      · rw [if_pos e'] at hqr
        have := h1.trans _ _ _ hpq hqr
        rw [if_pos (by omega)]
        exact this
theorem CO.pull {α β : Type} {c : β → β → Int} (h : CO c) {f : α → β} (hf : ∀ x y, f x = f y → x = y) : CO (fun x y => c (f x) (f y)) :=
  ⟨fun x => h.refl _, fun x y e => hf _ _ (h.eq0 _ _ e), fun x y => h.anti _ _, fun x y z => h.trans _ _ _⟩
theorem co_int : CO cmpI where
  refl x := by unfold cmpI; split <;> (try split) <;> omega
  eq0 x y h := by unfold cmpI at h; split at h <;> (try split at h) <;> omega
  anti x y := by unfold cmpI; split <;> (try split) <;> (try split) <;> omega
  trans x y z h1 h2 := by unfold cmpI at *; split at h1 <;> (try split at h1) <;> split at h2 <;> (try split at h2) <;> (try split) <;> (try split) <;> omega
theorem bl_eq : ∀ (x y : List UInt8), Op.bytesLess x y = decide (x < y)
  | [], [] => by simp [Op.bytesLess]
  | _ :: _, [] => by simp [Op.bytesLess]
  | [], _ :: _ => by simp [Op.bytesLess]
  | a :: x, b :: y => by
    rw [Op.bytesLess, bl_eq x y]
    simp only [List.cons_lt_cons_iff, Bool.decide_or, Bool.decide_and]
    by_cases h : a = b <;> simp [h]
theorem cmpS_eq (a b : ByteArray) : cmpS a b = if a.toList < b.toList then -1 else if b.toList < a.toList then 1 else 0 := by
  unfold cmpS
  rw [bl_eq]
  by_cases h : a.toList < b.toList
  · simp [h]
  · rw [if_neg (by simpa using h), if_neg h]
    by_cases e : b.toList < a.toList
    · rw [if_pos e, if_pos]
      have : ¬ a.toList = b.toList := fun e' => by rw [e'] at e; exact List.lt_irrefl _ e
      simp [h, this]
    · rw [if_neg e, if_neg]
      have : a.toList = b.toList := List.le_antisymm (List.not_lt.1 e) (List.not_lt.1 h)
      simp [this]
theorem toList_inj {a b : ByteArray} (h : a.toList = b.toList) : a = b := by
  have := str_eq a b
  rw [h] at this
  simpa using this
theorem co_str : CO cmpS where
  refl x := by rw [cmpS_eq]; simp [List.lt_irrefl]
  eq0 x y h := by
    rw [cmpS_eq] at h
    refine toList_inj (List.le_antisymm (List.not_lt.1 ?_) (List.not_lt.1 ?_))
    · intro e
      rw [if_neg (fun e' => List.lt_irrefl _ (List.lt_trans e' e)), if_pos e] at h
      omega
    · intro e; rw [if_pos e] at h; omega
  anti x y := by
    rw [cmpS_eq, cmpS_eq]
    by_cases h : x.toList < y.toList
    · have : ¬ y.toList < x.toList := fun e => List.lt_irrefl _ (List.lt_trans h e)
      simp [h, this]
    · by_cases e : y.toList < x.toList <;> simp [h, e]
  trans x y z h1 h2 := by
    rw [cmpS_eq] at *
    have q1 : x.toList < y.toList := by
      by_cases e : x.toList < y.toList
      · exact e
      · rw [if_neg e] at h1; split at h1 <;> omega
    have q2 : y.toList < z.toList := by
      by_cases e : y.toList < z.toList
      · exact e
      · rw [if_neg e] at h2; split at h2 <;> omega
    rw [if_pos (List.lt_trans q1 q2)]
    omega
theorem co_lid : CO cmpL :=
  ((co_str.lex (co_int.lex (co_int.lex co_str))).pull (f := fun x : Lid => (x.c, x.n, x.d, x.f)) (fun x y h => by
    obtain ⟨x1, x2, x3, x4⟩ := x
    obtain ⟨y1, y2, y3, y4⟩ := y
    simp only [Prod.mk.injEq] at h
    simp [h]))
theorem CO.swo {c : Lid → Lid → Int} (h : CO c) : Sort.SWO (lt c) where
  irrefl x := by simp [lt, h.refl]
  trans x y z h1 h2 := by
    simp only [lt, decide_eq_true_eq] at *
    exact h.trans _ _ _ h1 h2
  ntrans x y z h1 h2 := by
    simp only [lt, decide_eq_false_iff_not] at *
    intro h3
    by_cases e : c x y = 0
    · rw [h.eq0 _ _ e] at h3; exact h2 h3
    · exact h2 (h.trans _ _ _ ((h.anti y x).2 (by omega)) h3)
theorem CO.tot {c : Lid → Lid → Int} (h : CO c) (x y : Lid) (h1 : lt c x y = false) (h2 : lt c y x = false) : x = y := by
  simp only [lt, decide_eq_false_iff_not] at *
  refine h.eq0 _ _ ?_
  rw [h.anti y x] at h2
  omega
theorem ins_sortL (dl : List Lid) : (Sort.insertionSort (lt cmpL) dl.toArray 0 dl.toArray.size).toList = sortL dl := by
  obtain ⟨hP, hS⟩ := Sort.insertionSort_holds (lt := lt cmpL) co_lid.swo dl.toArray 0 dl.toArray.size (Nat.zero_le _) (Nat.le_refl _)
  exact Sort.sorted_unique_holds co_lid.swo co_lid.tot dl.toArray _ hP hS
theorem perm_of_map {α β : Type} {f : α → β} (hf : ∀ x y, f x = f y → x = y) : ∀ (l m : List α), (l.map f).Perm (m.map f) → l.Perm m
  | [], m, h => by
    have := h.length_eq
    simp only [List.map_nil, List.length_nil, List.length_map] at this
    rw [List.eq_nil_of_length_eq_zero this.symm]
  | a :: l, m, h => by
    have ha : f a ∈ m.map f := h.mem_iff.1 (by simp)
    obtain ⟨b, hb, e⟩ := List.mem_map.1 ha
    obtain rfl := hf _ _ e
    obtain ⟨m1, m2, rfl⟩ := List.append_of_mem hb
    have h2 : (f b :: l.map f).Perm (f b :: (m1 ++ m2).map f) := h.trans (by
      rw [List.map_append, List.map_cons, List.map_append]
      exact List.perm_middle)
    exact (List.Perm.cons b (perm_of_map hf l (m1 ++ m2) h2.cons_inv)).trans List.perm_middle.symm
def isD0 (o : Option (D × List Ob)) : Bool := match o with
  | some (.tup [], _) => true
  | _ => false
theorem isD0_spec {o : Option (D × List Ob)} (h : isD0 o = true) : ∃ T, o = some (.tup [], T) := by
  unfold isD0 at h
  split at h
  · exact ⟨_, rfl⟩
  · cases h
theorem sortL_perm {l m : List Lid} (h : l.Perm m) : sortL l = sortL m := by
  have tr : ∀ a b c : Lid, (!lt cmpL b a) = true → (!lt cmpL c b) = true → (!lt cmpL c a) = true := fun a b c h1 h2 => by
    simp only [Bool.not_eq_true'] at *
    exact co_lid.swo.ntrans _ _ _ h2 h1
  have tt : ∀ a b : Lid, ((!lt cmpL b a) || (!lt cmpL a b)) = true := fun a b => by
    cases h1 : lt cmpL b a
    · rfl
    · cases h2 : lt cmpL a b
      · rfl
      · have := co_lid.swo.trans _ _ _ h1 h2
        rw [co_lid.swo.irrefl] at this
        cases this
  refine List.Perm.eq_of_pairwise (le := fun a b => (!lt cmpL b a) = true) (fun a b _ _ h1 h2 => ?_) (List.pairwise_mergeSort tr tt l) (List.pairwise_mergeSort tr tt m) (((List.mergeSort_perm l _).trans h).trans (List.mergeSort_perm m _).symm)
  simp only [Bool.not_eq_true'] at h1 h2
  exact co_lid.tot a b h2 h1
theorem obsZ {call : Call} {st : Bool} {S : List Ob} {f : FuncId} {args : List D} {d : D} (hm : E0.mode f = .obs) (hp : pureL args = false) (h : call f args S = some (d, S)) (hd : d.pure = true) : callD E0 call st S f args = some (d, S) := by
  unfold callD
  rw [hm]
  dsimp only
  rw [if_neg (by rw [hp]; simp), h]
  dsimp only
  rw [hd, keptS_refl]; rfl
theorem eqpZ {k i o : Nat} : dEq Tryz.prog 10000 26 (.loc k i o) .nilp = some false := by
  rw [show (10000 : Nat) = 9999 + 1 from rfl]
  simp only [dEq, Tryz.underlying26]
theorem eqmZ {k : Nat} : dEq Tryz.prog 10000 90 (.map k) .nilm = some false := by
  rw [show (10000 : Nat) = 9999 + 1 from rfl]
  simp only [dEq, Tryz.underlying90]
theorem madeZ {n k m : Nat} {c0 : D} {S : List Ob} (hn : 1 ≤ n) (hk : S[k]? = some (.row 2 [[c0, .map m]])) (st : Bool) : callD E0 (dcall E0 n) st S 81 [.loc k 0 0] = some (.bool true, S) := by
  obtain ⟨q, rfl⟩ : ∃ q, n = q + 1 := ⟨n - 1, by omega⟩
  have : WO (dcall E0 (q + 1) 81 [.loc k 0 0] S) fun d T => d = .bool true ∧ T = S := by
    refine wo_dcall Tryz.func81 rfl (by decide) rfl 12 rfl (fun a hal ha => ?_)
    have h0 : a[0]? = some (.loc k 0 0) := ha 0 (by simp)
    clear ha
    simp (maxSteps := 1000000) (disch := omega) only [push_cast, ↓wc_seq, ↓wc_region, ↓wr_cons, ↓wr_consgL, ↓wr_nil, ↓wo_pickL, ↓wc_ret, wo_some, opQ_eq, seqQ_normal, retQ_ret, pickO_true, gstep_tt, Nat.reduceAdd, Nat.reduceMul, Nat.reduceLT, Nat.reduceEqDiff, ↓reduceIte, planIds, List.contains_cons, List.contains_nil, Nat.reduceBEq, setC, List.length_set, reduceCtorEq, eq_self, Nat.zero_add, hal, h0, hk, eqpZ, eqmZ, Tryz.f81]
  obtain ⟨d, T, ho, rfl, rfl⟩ := this
  exact obsZ rfl rfl ho rfl
theorem elL : elemT Tryz.prog 38 = some 50 := by kernel_rfl
theorem szL : sizeT Tryz.prog 50 = some 4 := by kernel_rfl
theorem zeL : zeroT Tryz.prog 50 = some (.agg [.str (ByteArray.mk #[]), .int .i64 0, .int .i64 0, .str (ByteArray.mk #[])]) := by kernel_rfl
theorem byL : bytesT Tryz.prog 50 ≤ 100000 := by
  have : bytesT Tryz.prog 50 = 48 := by kernel_rfl
  rw [this]; omega
theorem sortNil_all : isD0 (dcall E0 100 117 [.nils, .func 118 [] []] []) = true := by kernel_rfl
theorem sortNil (S : List Ob) : callD E0 (dcall E0 200) false S 117 [.nils, .func 118 [] []] = some (.tup [], S) := by
  obtain ⟨T, h⟩ := isD0_spec sortNil_all
  exact pure0Z rfl rfl (dcall_le (by omega) _ _ _ _ h) rfl
/-- What Legs hands back. -/
def LegsR (S : List Ob) (ls : List Lid) (d : D) (T : List Ob) : Prop := (∀ (j : Nat) (ob : Ob), S[j]? = some ob → T[j]? = some ob) ∧ ((ls = [] ∧ d = .nils) ∨ ∃ k, ls ≠ [] ∧ S.length ≤ k ∧ d = .os k 0 ls.length false ∧ T[k]? = some (.row 4 ((sortL ls).map Lid.enc)))
set_option maxHeartbeats 8000000 in
set_option maxRecDepth 100000 in
theorem Legs_mw {W : World} {C : Cx} {S : List Ob} {k m : Nat} {c0 : D} {ps : List (D × D)} {ls : List Lid} {vargs : Array Value} (hs : SR W C S) (hP : C.P = E0.P) (hG : GR W C E0.G) (hv : VRs W C [.loc k 0 0] vargs.toList)
    (hk : S[k]? = some (.row 2 [[c0, .map m]])) (hm : S[m]? = some (.map 50 ps)) (hl : ps.map (·.1) = ls.map (fun x => .agg x.enc)) (h12 : ps.length ≤ 12) :
    Calls Tryz.prog 69 vargs W fun e W' => ∃ v C' d T, e = .returned v ∧ LegsR S ls d T ∧ VR W' C' d v ∧ SR W' C' T ∧ Fr W C S W' C' T := by
  have hC : CallOk E0 (dcall E0 200) := dcall_ok envOk0 200
  refine calls_of_mw (E := E0) envOk0 (f := 69) Tryz.func69 rfl ?_ hs hP hG hv
  obtain ⟨a, ha⟩ : ∃ a, a = ([D.loc k 0 0] ++ List.replicate (Tryz.f69.ntmps - [D.loc k 0 0].length) (.tup [])) := ⟨_, rfl⟩
  rw [← ha]
  have hal : a.length = Tryz.f69.ntmps := by rw [ha]; rfl
  have h0 : a[0]? = some (.loc k 0 0) := by rw [ha]; rfl
  have c1 := madeZ (n := 200) (by omega) hk false
  clear ha
  
  replace hal : a.length = 24 := hal
  refine MW.cut (n := 200) envOk0 hC (fun a T => S = T ∧ a.length = 24 ∧ a[0]? = some (.loc k 0 0)) (by kernel_rfl) ?_ ?_
  · simp (maxSteps := 1000000) (disch := omega) only [push_cast, ↓wc_region, ↓wr_cons, ↓wr_nil, wo_some, opQ_eq, Nat.reduceAdd, Nat.reduceMul, ↓reduceIte, planIds, List.contains_cons, List.contains_nil, Nat.reduceBEq, setC, List.length_set, reduceCtorEq, eq_self, Nat.zero_add, hal, h0]
  clear hal h0 a
  rintro a T ⟨rfl, hal, h0⟩
  refine MW.cut (n := 200) envOk0 hC (fun a T => S = T ∧ a.length = 24 ∧ a[0]? = some (.loc k 0 0)) (by kernel_rfl) ?_ ?_
  · simp (maxSteps := 1000000) (disch := omega) only [push_cast, ↓wc_seq, ↓wc_condL, ↓wc_region, ↓wr_cons, ↓wr_nil, ↓wo_callf, ↓wc_skip, wo_some, opQ_eq, seqQ_normal, pickC_false, Nat.reduceAdd, Nat.reduceMul, Nat.reduceLT, ↓reduceIte, planIds, hasExt, cntFs, idxFs, clnFs, ovlFs, List.contains_cons, List.contains_nil, List.any_cons, List.any_nil, Nat.reduceBEq, setC, List.length_set, reduceCtorEq, eq_self, Nat.zero_add, hal, h0, c1]
  clear hal h0 a
  rintro a T ⟨rfl, hal, h0⟩
  refine MW.cut (n := 200) envOk0 hC (fun a T => S = T ∧ a.length = 24 ∧ a[0]? = some (.loc k 0 0) ∧ a[3]? = some (.nils)) (by kernel_rfl) ?_ ?_
  · simp (maxSteps := 1000000) (disch := omega) only [push_cast, ↓wc_region, ↓wr_cons, ↓wr_nil, wo_some, opQ_eq, Nat.reduceAdd, Nat.reduceMul, Nat.reduceLT, ↓reduceIte, planIds, List.contains_cons, List.contains_nil, Nat.reduceBEq, setC, List.length_set, reduceCtorEq, eq_self, Nat.zero_add, hal, h0]
  clear hal h0 a
  rintro a T ⟨rfl, hal, h0, h3⟩
  have hmk : m ≠ k := by rintro rfl; rw [hk] at hm; cases hm
  have hml : m < S.length := (List.getElem?_eq_some_iff.1 hm).1
  refine MW.seq (MW.range_w (n := 200) envOk0 hC rfl ⟨rfl, rfl, rfl⟩ rfl ⟨rfl, rfl, rfl⟩ ⟨rfl, rfl, rfl⟩ rfl ⟨rfl, rfl, rfl⟩ (by decide) (by kernel_rfl) Tryz.underlying90 hm (fun a => a.length = 24 ∧ a[3]? = some (.nils)) ?_
    (fun done todo a T => a.length = 24 ∧ a[12]? = some (.loc S.length 0 0) ∧ T[m]? = some .dead ∧ (∀ (j : Nat) (ob : Ob), j ≠ m → S[j]? = some ob → T[j]? = some ob) ∧ S.length ≤ T.length ∧ ∃ (dl : List Lid) (d : D), done.map (·.1) = dl.map (fun x => .agg x.enc) ∧ a[3]? = some d ∧ ((dl = [] ∧ d = .nils) ∨ ∃ q, dl ≠ [] ∧ S.length < q ∧ d = .os q 0 dl.length false ∧ T[q]? = some (.row 4 (dl.map Lid.enc)))) ?_ ?_ ?_ ?_)
  · simp only [List.dropLast]
    simp (maxSteps := 1000000) (disch := omega) only [push_cast, ↓wr_cons, ↓wr_nil, wo_some, opQ_eq, Nat.reduceLT, Nat.reduceEqDiff, ↓reduceIte, setC, List.length_set, eq_self, Nat.zero_add, hal, h0, h3, hk]
  · rintro l' a1 ⟨hal, h3⟩ -
    refine ⟨by rw [List.length_set]; exact hal, by rw [List.getElem?_set_self (by omega)], get_old (List.getElem?_set_self hml), fun j ob hj ho => get_old (by rw [List.getElem?_set_ne (Ne.symm hj)]; exact ho), by simp, [], .nils, rfl, by rw [List.getElem?_set_ne (by decide)]; exact h3, .inl ⟨rfl, rfl⟩⟩
  · rintro done todo a T ⟨hal, h12, hd, -⟩
    exact ⟨h12, by omega, by omega, hd⟩
  · rintro done todo j p a T hperm ⟨hal, h12, hd, hkp, hlen, dl, d, hdl, h3, hg⟩ hj
    have hpm : p ∈ ps := hperm.mem_iff.1 (List.mem_append.2 (.inr (List.mem_of_getElem? hj)))
    obtain ⟨x, hx⟩ : ∃ x : Lid, p.1 = .agg x.enc := by
      have : p.1 ∈ ps.map (·.1) := List.mem_map.2 ⟨p, hpm, rfl⟩
      rw [hl] at this
      obtain ⟨x, -, hx⟩ := List.mem_map.1 this
      exact ⟨x, hx.symm⟩
    have hll : dl.length ≤ 12 := by
      have h1 := congrArg List.length hdl
      have h2 := hperm.length_eq
      rw [List.length_append] at h2
      simp only [List.length_map] at h1
      omega
    obtain ⟨p1, p2⟩ := p
    dsimp only at hx
    subst hx
    have hgl : GL 4 Lid.enc (T ++ [Ob.row 4 [x.enc]]) d dl := by
      rcases hg with ⟨e1, e2⟩ | ⟨q, -, -, e1, e2⟩
      · exact .inl ⟨e2, e1⟩
      · exact .inr ⟨q, e1, get_old e2⟩
    have hnq : ∀ (j : Nat), j < S.length → ∀ n, d = .os j 0 n false → False := by
      rintro j hj n rfl
      rcases hg with ⟨-, e⟩ | ⟨q, -, hq, e, -⟩
      · cases e
      · cases e; omega
    obtain ⟨S', e1, e2, e3, e4, -⟩ := app_gl (n := 3) elL szL zeL rfl byL hgl (by omega) x
    have hde := e4 m .dead (hnq m hml) (get_old hd)
    have hkp' : ∀ (j : Nat) (ob : Ob), j ≠ m → S[j]? = some ob → S'[j]? = some ob := fun j ob hjm hj => e4 j ob (hnq j (List.getElem?_eq_some_iff.1 hj).1) (get_old (hkp j ob hjm hj))
    have hTl : S.length < T.length ∨ S.length = T.length := by omega
    simp only [Lid.enc] at e1
    have hlT : S.length < (T ++ [Ob.row 4 [x.enc]]).length := by rw [List.length_append]; simp; omega
    have hnew : S'[(T ++ [Ob.row 4 [x.enc]]).length]? = some (.row 4 ((dl ++ [x]).map Lid.enc)) := by
      rcases e2 with ⟨e, -⟩ | ⟨q, e, hq⟩
      · cases e
      · injection e with e
        rw [e]; exact hq
    simp only [Lid.enc] at hlT
    simp (maxSteps := 1000000) (disch := omega) only [push_cast, ↓wc_region, ↓wr_cons, ↓wr_nil, wo_some, opQ_eq, Nat.reduceAdd, Nat.reduceMul, Nat.reducePow, Nat.reduceLT, Nat.reduceLeDiff, Nat.reduceEqDiff, ↓wo_buildSlice, evParts, ↓reduceIte, planIds, List.contains_cons, List.contains_nil, Nat.reduceBEq, setC, List.length_set, eq_self, Option.some.injEq, Nat.zero_add, ne_eq, hal, h3, h12, get_end, set_end, e1, Lid.enc]
    refine ⟨hde, fun j ob hjm hj => hkp' j ob hjm hj, by rw [e3, List.length_append]; simp; omega, dl ++ [x], _, ?_, rfl, .inr ⟨_, by simp, hlT, by rw [show (dl ++ [x]).length = dl.length + 1 by simp], hnew⟩⟩
    rw [List.map_append, hdl, List.map_append]
    rfl
  · rintro done a T hperm ⟨hal, h12, hd, hkp, hlen, dl, d, hdl, h3, hg⟩
    show MW E0 _ _ _ _
    have hperm2 : dl.Perm ls := by
      have h1 : (done.map (·.1)).Perm (ps.map (·.1)) := hperm.map _
      rw [hdl, hl] at h1
      refine perm_of_map (f := fun x : Lid => D.agg x.enc) (fun x y h => ?_) _ _ h1
      · skip
        simp only [Lid.enc, D.agg.injEq, List.cons.injEq, D.str.injEq, D.int.injEq, true_and, and_true] at h
        obtain ⟨x1, x2, x3, x4⟩ := x
        obtain ⟨y1, y2, y3, y4⟩ := y
        simp_all
    have hU : ∀ (j : Nat) (ob : Ob), S[j]? = some ob → (T.set m (.map 50 ps))[j]? = some ob := fun j ob hj => by
      by_cases e : j = m
      · subst e
        rw [hm] at hj
        cases hj
        exact List.getElem?_set_self (by omega)
      · rw [List.getElem?_set_ne (Ne.symm e)]; exact hkp j ob e hj
    refine MW.wc (n := 200) envOk0 hC (by kernel_rfl) ?_
    rcases hg with ⟨e1, rfl⟩ | ⟨q, hne, hq, rfl, hrow⟩
    · have he : ls = [] := by
        subst e1
        exact List.eq_nil_of_length_eq_zero hperm2.length_eq.symm
      have sn := sortNil (T.set m (.map 50 ps))
      simp (maxSteps := 1000000) (disch := omega) only [push_cast, ↓wc_seq, ↓wc_region, ↓wr_cons, ↓wr_nil, ↓wo_callf, ↓wc_ret, wo_some, opQ_eq, seqQ_normal, Nat.reduceAdd, Nat.reduceMul, Nat.reduceLT, Nat.reduceEqDiff, ↓reduceIte, planIds, hasExt, cntFs, idxFs, clnFs, ovlFs, List.contains_cons, List.contains_nil, List.any_cons, List.any_nil, Nat.reduceBEq, setC, List.length_set, reduceCtorEq, eq_self, Nat.zero_add, hal, h3, sn]
      refine ⟨.inr trivial, [.nils], by simp (maxSteps := 1000000) (disch := omega) only [push_cast, Nat.reduceLT, ↓reduceIte, setC, List.length_set, eq_self, hal, Tryz.f69], hU, .inl ⟨he, rfl⟩⟩
    · have hqU : (T.set m (.map 50 ps))[q]? = some (.row 4 (rowS dl.toArray)) := by
        rw [List.getElem?_set_ne (by omega)]
        exact hrow
      have hsz : dl.toArray.size = dl.length := by simp
      have h12 : dl.length ≤ 12 := by
        have := hperm2.length_eq
        have h' := congrArg List.length hl
        simp only [List.length_map] at h'
        omega
      obtain ⟨r, U', c2, r2⟩ := sort_d (x := false) (n := 199) (n0 := 12) (S0 := T.set m (.map 50 ps)) (k := q) (d := dl.toArray) cmp_ok (by omega) (by omega) ⟨hqU, fun _ _ _ h => h, Nat.le_refl _⟩
      have c2 := (ownZ (f := 117) rfl pure_own).trans c2
      rw [hsz] at c2
      have hrow2 := r2.row
      have hso := ins_sortL dl
      rw [show rowS _ = (Sort.insertionSort (lt cmpL) dl.toArray 0 dl.toArray.size).toList.map Lid.enc from rfl, hso] at hrow2
      simp (maxSteps := 1000000) (disch := omega) only [push_cast, ↓wc_seq, ↓wc_region, ↓wr_cons, ↓wr_nil, ↓wo_callf, ↓wc_ret, wo_some, opQ_eq, seqQ_normal, Nat.reduceAdd, Nat.reduceMul, Nat.reduceLT, Nat.reduceEqDiff, ↓reduceIte, planIds, hasExt, cntFs, idxFs, clnFs, ovlFs, List.contains_cons, List.contains_nil, List.any_cons, List.any_nil, Nat.reduceBEq, setC, List.length_set, reduceCtorEq, eq_self, Nat.zero_add, hal, h3, c2]

      refine ⟨.inr trivial, [.os q 0 dl.length false], by simp (maxSteps := 1000000) (disch := omega) only [push_cast, Nat.reduceLT, ↓reduceIte, setC, List.length_set, eq_self, hal, Tryz.f69], fun j ob hj => r2.old j ob (fun e => ?_) (hU j ob hj), .inr ⟨q, fun e => hne (by rw [e] at hperm2; exact hperm2.eq_nil), by omega, by rw [hperm2.length_eq], ?_⟩⟩
      · have := (List.getElem?_eq_some_iff.1 hj).1
        omega
      · rw [hrow2, sortL_perm hperm2]
end Lg
end Go.Proofs.YtajhgnefcddenaaGreatDoor.Dm
namespace Go.Proofs.YtajhgnefcddenaaGreatDoor.Dm
open Go Gw
namespace Lg
theorem isLid_spec {d : D} (h : isLid d = true) : ∃ x : Lid, d = .agg x.enc := by
  unfold isLid at h
  split at h
  · rename_i c n d f
    exact ⟨⟨c, n, d, f⟩, rfl⟩
  · cases h
theorem lids_of : ∀ {ps : List (D × D)}, ps.all (fun p => isLid p.1) = true → ∃ ls : List Lid, ps.map (·.1) = ls.map (fun x => .agg x.enc)
  | [], _ => ⟨[], rfl⟩
  | p :: ps, h => by
    simp only [List.all_cons, Bool.and_eq_true] at h
    obtain ⟨x, hx⟩ := isLid_spec h.1
    obtain ⟨ls, hl⟩ := lids_of h.2
    exact ⟨x :: ls, by rw [List.map_cons, List.map_cons, hx, hl]⟩
theorem keys_sorted {ps : List (D × D)} {ls : List Lid} (hl : ps.map (·.1) = ls.map (fun x => .agg x.enc)) : ((ps.map fun p => keyCells p.1).mergeSort fun x y => !decide (kCmp y x < 0)) = (sortL ls).map Lid.enc := by
  have h1 : (ps.map fun p => keyCells p.1) = ls.map Lid.enc := by
    have : (ps.map fun p => keyCells p.1) = (ps.map (·.1)).map keyCells := by rw [List.map_map]; rfl
    rw [this, hl, List.map_map]
    rfl
  rw [h1]
  unfold sortL
  rw [List.map_mergeSort (s := fun x y => !decide (kCmp y x < 0))]
  intro a _ b _
  rfl
set_option maxHeartbeats 1000000 in
theorem legsQ_ok {args : List D} {S S' : List Ob} {d : D} (h : legsQ args S = some (d, S')) {W : World} {C : Cx} {vargs : Array Value} (hs : SR W C S) (hP : C.P = E0.P) (hG : GR W C E0.G) (hv : VRs W C args vargs.toList) :
    (∃ fn, E0.P.funcs[69]? = some fn ∧ fn.body.isSome = true) ∧
    Calls E0.P 69 vargs W fun e W' => ∃ v C', e = .returned v ∧ VR W' C' d v ∧ SR W' C' S' ∧ Fr W C S W' C' S' := by
  refine ⟨⟨_, Tryz.func69, rfl⟩, ?_⟩
  unfold legsQ at h
  split at h
  case h_2 => cases h
  split at h
  case h_2 => cases h
  split at h
  case h_2 => cases h
  split at h
  case isFalse => cases h
  rename_i k _ c0 m hk _ t ps hm hc
  obtain ⟨rfl, h12, hall⟩ := hc
  obtain ⟨ls, hl⟩ := lids_of hall
  simp only [Option.some.injEq, Prod.mk.injEq] at h
  obtain ⟨hd, rfl⟩ := h
  refine (Legs_mw hs hP hG hv hk hm hl h12).mono ?_
  rintro e W' ⟨v, C1, d1, T, rfl, ⟨hkp, hr⟩, hv1, hs1, hf⟩
  rcases hr with ⟨he, rfl⟩ | ⟨q, hne, hq, rfl, hrow⟩
  · have hps : ps.isEmpty = true := by
      have := congrArg List.length hl
      rw [he] at this
      simp only [List.length_map, List.length_nil] at this
      rw [List.eq_nil_of_length_eq_zero this]; rfl
    rw [hps, if_pos rfl] at hd
    subst hd
    obtain ⟨C', a1, a2, a3⟩ := let_go (n := 40) hs hs1 hf hkp (Nat.le_refl _) (d' := .nils) rfl hv1
    exact ⟨v, C', rfl, a1, a2, a3⟩
  · have hpu : pureLL ((sortL ls).map Lid.enc) = true := by
      generalize sortL ls = l
      induction l with
      | nil => rfl
      | cons x l ih =>
        rw [List.map_cons]
        simp only [pureLL, ih, Bool.and_true]
        rfl
    have hfz := freeze_os (n := 38) (x := false) (onlyAt_self hrow) hpu
    have hlen : ((sortL ls).map Lid.enc).length = ls.length := by
      rw [List.length_map]
      exact (List.mergeSort_perm _ _).length_eq
    rw [hlen] at hfz
    have hps : ¬ ps.isEmpty = true := fun e => by
      rw [List.isEmpty_iff] at e
      rw [e] at hl
      have := congrArg List.length hl
      simp only [List.length_map, List.length_nil] at this
      exact hne (List.eq_nil_of_length_eq_zero this.symm)
    rw [if_neg hps, keys_sorted hl] at hd
    subst hd
    obtain ⟨C', a1, a2, a3⟩ := let_go hs hs1 hf hkp hq hfz hv1
    exact ⟨v, C', rfl, a1, a2, a3⟩
theorem legs_ok {args : List D} {S S' : List Ob} {d : D} (h : legsP args S = some (d, S')) {W : World} {C : Cx} {vargs : Array Value} (hs : SR W C S) (hP : C.P = E0.P) (hG : GR W C E0.G) (hv : VRs W C args vargs.toList) :
    (∃ fn, E0.P.funcs[69]? = some fn ∧ fn.body.isSome = true) ∧
    Calls E0.P 69 vargs W fun e W' => ∃ v C', e = .returned v ∧ VR W' C' d v ∧ SR W' C' S' ∧ Fr W C S W' C' S' := by
  unfold legsP at h
  split at h
  · rename_i r hr
    cases h
    exact legsQ_ok hr hs hP hG hv
  · exact dcall_ok envOk0 100 _ _ _ _ _ h W C vargs hs hP hG hv
end Lg
end Go.Proofs.YtajhgnefcddenaaGreatDoor.Dm
