/-
  StockLimits as plain data: nothing is sold beyond the limits, and what is sold is what was sold less what was cancelled.
  The walks of StockExact, StockResizes and StockLimits: first what they share.
-/
import Derived.Test.YtlamgjbngblefaaGreatDoorSkV
import Derived.Test.YtlamgjbngblefaaGreatDoorWq
namespace Go.Proofs.YtlamgjbngblefaaGreatDoor.Dm
open Go Gw
set_option linter.unusedSimpArgs false

/-- No class of a leg is sold beyond its limit. -/
def InLim (x : Leg) : Prop := ∀ (i : Nat) (y : Cab) (r : List Int), x.cfg.cabs[i]? = some y → x.sold[i]? = some r → ∀ j, j < r.length → 0 ≤ spF y r j
theorem excF_zero {y : Cab} {r : List Int} (h : ∀ j, j < r.length → 0 ≤ spF y r j) : ∀ n, n ≤ r.length → excF y r n = 0
  | 0, _ => rfl
  | n + 1, hn => by
    have h1 := excF_zero h n (by omega)
    have h2 := h n (by omega)
    rw [excF, h1]
    omega
theorem excL_zero {x : Leg} (h : InLim x) : excL x = 0 := by
  have key : ∀ l : List (Cab × List Int), (∀ p ∈ l, excF p.1 p.2 p.2.length = 0) → l.foldl (fun m p => max m (excF p.1 p.2 p.2.length)) 0 = 0 := by
    intro l
    induction l with
    | nil => intro _; rfl
    | cons p l ih =>
      intro hl
      rw [List.foldl_cons, hl p (by simp)]
      exact ih fun q hq => hl q (by simp [hq])
  refine key _ fun p hp => ?_
  obtain ⟨i, hi⟩ := List.mem_iff_getElem?.1 hp
  rw [List.getElem?_zip_eq_some] at hi
  exact excF_zero (h i _ _ hi.1 hi.2) _ (Nat.le_refl _)
def totF (s : Stk) (id : Lid) : Int := match s.get id with
  | none => 0
  | some x => tot x
def LimOk (s : Stk) : Prop := ∀ id x, s.get id = some x → InLim x
theorem excess_zero {s : Stk} (h : LimOk s) (id : Lid) : s.excess id = 0 := by
  unfold Stk.excess
  rcases e : s.get id with _ | x
  · rfl
  · exact excL_zero (h id x e)
theorem addL_lim {l : List Cfg} {B : Int} {x : Leg} (ok : LegOk l B x) (h : InLim x) {cl : ByteArray} {w : Int} (hw : w ≤ 0 ∨ w ≤ leftF x cl) : InLim (addL cl w x) := by
  unfold addL
  rcases hp : placeF cl 0 x.cfg.cabs with _ | ⟨a, b⟩
  · exact h
  obtain ⟨y, r, z, v, e1, e2, e3, e4, e5, e6, e7⟩ := ok.at_ hp
  have hb : b < r.length := lt_of_get e5
  intro i y' r' hy hr j hj
  dsimp only at hy hr
  unfold addAt at hr
  obtain ⟨r0, hr0, rfl⟩ := modify_get hr
  by_cases e : a = i
  · subst e
    rw [e1] at hy
    cases hy
    rw [e2] at hr0
    cases hr0
    rw [if_pos rfl] at hj ⊢
    rw [List.length_modify] at hj
    rw [spF_add y r b w j hb]
    have h0 := h a y r e1 e2 j hj
    by_cases hjb : j ≤ b
    · rw [if_pos hjb]
      rcases hw with hw | hw
      · omega
      · have hl : leftF x cl = max 0 (avF y r b) := by
          unfold leftF
          rw [hp]
          dsimp only
          rw [e1, e2]
        have := avF_le (y := y) (r := r) hjb
        omega
    · rw [if_neg hjb]; omega
  · rw [if_neg e] at hj ⊢
    exact h i y' r0 hy hr0 j hj
theorem addL_tot {l : List Cfg} {B : Int} {x : Leg} (ok : LegOk l B x) {cl : ByteArray} {w : Int} {q : Nat × Nat} (hp : placeF cl 0 x.cfg.cabs = some q) : tot (addL cl w x) = tot x + w := by
  obtain ⟨a, b⟩ := q
  obtain ⟨y, r, z, v, e1, e2, e3, e4, e5, e6, e7⟩ := ok.at_ hp
  unfold addL
  rw [hp]
  exact sums_modify x.sold a b w e2 (lt_of_get e5)
theorem sell_inv {s : Stk} {ids : List Lid} {cl : ByteArray} {w : Int} (h : (s.sell ids cl w).1 = 0) : (s.sell ids cl w).2 = { s with legs := addIds cl w ids s.legs } ∧ s.named ids cl w true = 0 ∧ ∀ id ∈ ids, ∀ x, s.get id = some x → w ≤ leftF x cl := by
  unfold Stk.sell at h ⊢
  split at h
  · rename_i h1; exact absurd h h1
  · rename_i h1
    rw [if_neg h1]
    split at h
    · simp at h
    · rename_i h2
      rw [if_neg h2]
      refine ⟨rfl, Classical.not_not.1 h1, fun id hid x hx => ?_⟩
      rw [Bool.not_eq_true, List.any_eq_false] at h2
      have := h2 id hid
      rw [hx] at this
      simp at this
      exact this
theorem cancel_inv {s : Stk} {ids : List Lid} {cl : ByteArray} {w : Int} (h : (s.cancel ids cl w).1 = 0) : (s.cancel ids cl w).2 = { s with legs := addIds cl (-w) ids s.legs } ∧ s.named ids cl w false = 0 := by
  unfold Stk.cancel at h ⊢
  split at h
  · rename_i h1; exact absurd h h1
  · rename_i h1
    rw [if_neg h1]
    split at h
    · simp at h
    · rename_i h2
      rw [if_neg h2]
      exact ⟨rfl, Classical.not_not.1 h1⟩
theorem cancel_err {s : Stk} {ids : List Lid} {cl : ByteArray} {w : Int} (h : (s.cancel ids cl w).1 ≠ 0) : (s.cancel ids cl w).2 = s := by
  unfold Stk.cancel at h ⊢
  split at h
  · rename_i h1; rw [if_pos h1]
  · rename_i h1
    rw [if_neg h1]
    split at h
    · rename_i h2; rw [if_pos h2]
    · simp at h
theorem open_err {s : Stk} {id : Lid} {e : ByteArray} (h : (s.open id e).1 ≠ 0) : (s.open id e).2 = s := by
  unfold Stk.open at h ⊢
  split
  · rfl
  · rename_i h1
    rw [if_neg h1] at h
    split
    · rfl
    · rename_i c hc
      rw [hc] at h
      simp at h
theorem close_err {s : Stk} {id : Lid} (h : (s.close id).1 ≠ 0) : (s.close id).2 = s := by
  unfold Stk.close at h ⊢
  split
  · rfl
  · rename_i x hx
    rw [hx] at h
    dsimp only at h
    split
    · rfl
    · rename_i hc
      rw [if_neg hc] at h
      simp at h
theorem add_lim {B : Int} {s : Stk} (ok : StkOk B s) (h : LimOk s) {ids : List Lid} (hnd : ids.Nodup) {cl : ByteArray} {w : Int} (hw : w ≤ 0 ∨ ∀ id ∈ ids, ∀ x, s.get id = some x → w ≤ leftF x cl) : LimOk { s with legs := addIds cl w ids s.legs } := by
  intro id x hx
  have hx : getL (addIds cl w ids s.legs) id = some x := hx
  rw [getL_addIds cl w id ids s.legs hnd] at hx
  by_cases e : id ∈ ids
  · rw [if_pos e] at hx
    obtain ⟨x0, h0, rfl⟩ := Option.map_eq_some_iff.1 hx
    refine addL_lim (ok.get h0) (h id x0 h0) ?_
    rcases hw with hw | hw
    · exact .inl hw
    · exact .inr (hw id e x0 h0)
  · rw [if_neg e] at hx
    exact h id x hx
theorem add_tot {B : Int} {s : Stk} (ok : StkOk B s) {ids : List Lid} (hnd : ids.Nodup) {cl : ByteArray} {w : Int} (hall : ∀ id ∈ ids, ∃ x q, s.get id = some x ∧ placeF cl 0 x.cfg.cabs = some q) (id : Lid) :
    totF { s with legs := addIds cl w ids s.legs } id = totF s id + if id ∈ ids then w else 0 := by
  unfold totF
  show (match getL (addIds cl w ids s.legs) id with | none => 0 | some x => tot x) = _
  rw [getL_addIds cl w id ids s.legs hnd]
  by_cases e : id ∈ ids
  · rw [if_pos e, if_pos e]
    obtain ⟨x, q, hx, hq⟩ := hall id e
    have hx' : getL s.legs id = some x := hx
    rw [hx, hx']
    exact addL_tot (ok.get hx) hq
  · rw [if_neg e, if_neg e]
    show _ = (match getL s.legs id with | none => 0 | some x => tot x) + 0
    omega
theorem emptyF_lim {l : List Cfg} (hl : CfgsOk l) {c : Cfg} (hc : c ∈ l) : InLim ⟨c, false, emptyF c⟩ := by
  intro i y r hy hr j hj
  dsimp only at hy hr
  unfold emptyF at hr
  rw [List.getElem?_map, hy] at hr
  have hr : List.replicate y.cls.length (0 : Int) = r := by simpa using hr
  subst hr
  have hyo := (hl.cfg c hc).cab y (List.mem_of_getElem? hy)
  have := limF_pos hyo j
  unfold spF
  rw [List.drop_replicate, sum_rep]
  omega
theorem emptyF_tot (c : Cfg) : tot ⟨c, false, emptyF c⟩ = 0 := sum_emptyF c.cabs
theorem open_lim {B : Int} {s : Stk} (ok : StkOk B s) (h : LimOk s) (id : Lid) (e : ByteArray) : LimOk (s.open id e).2 ∧ ∀ id', totF (s.open id e).2 id' = totF s id' := by
  unfold Stk.open
  split
  · exact ⟨h, fun _ => rfl⟩
  · rename_i h1
    split
    · exact ⟨h, fun _ => rfl⟩
    · rename_i c hc
      have hcm := (findF_mem hc).1
      have hn : getL s.legs id = none := by
        have : (s.get id).isSome = false := by simpa using h1
        rcases e : s.get id with _ | y
        · exact e
        · rw [e] at this; cases this
      have hg : ∀ id', getL (s.legs ++ [(id, (⟨c, false, emptyF c⟩ : Leg))]) id' = (getL s.legs id').or (if id = id' then some ⟨c, false, emptyF c⟩ else none) := fun id' => getL_app _ _ _ _
      refine ⟨fun id' x hx => ?_, fun id' => ?_⟩
      · have hx : getL (s.legs ++ [(id, (⟨c, false, emptyF c⟩ : Leg))]) id' = some x := hx
        rw [hg] at hx
        rcases e' : getL s.legs id' with _ | x0
        · rw [e'] at hx
          by_cases ee : id = id'
          · rw [if_pos ee] at hx
            cases hx
            exact emptyF_lim ok.cfgs hcm
          · rw [if_neg ee] at hx; cases hx
        · rw [e'] at hx
          cases hx
          exact h id' _ e'
      · unfold totF
        show (match getL (s.legs ++ [(id, (⟨c, false, emptyF c⟩ : Leg))]) id' with | none => 0 | some x => tot x) = (match getL s.legs id' with | none => 0 | some x => tot x)
        rw [hg]
        generalize getL s.legs id' = q
        rcases q with _ | x0
        · by_cases ee : id = id'
          · rw [if_pos ee]; exact emptyF_tot c
          · rw [if_neg ee]; rfl
        · rfl
theorem close_lim {s : Stk} (h : LimOk s) (id : Lid) : LimOk (s.close id).2 ∧ ∀ id', totF (s.close id).2 id' = totF s id' := by
  unfold Stk.close
  split
  · exact ⟨h, fun _ => rfl⟩
  · rename_i x hx
    split
    · exact ⟨h, fun _ => rfl⟩
    · have hg : ∀ id', getL (updL s.legs id fun x => { x with closed := true }) id' = if id' = id then (getL s.legs id').map (fun x => { x with closed := true }) else getL s.legs id' := fun id' => getL_upd _ _ _ _
      refine ⟨fun id' y hy => ?_, fun id' => ?_⟩
      · have hy : getL (updL s.legs id fun x => { x with closed := true }) id' = some y := hy
        rw [hg] at hy
        split at hy
        · obtain ⟨y0, h0, rfl⟩ := Option.map_eq_some_iff.1 hy
          exact h id' y0 h0
        · exact h id' y hy
      · unfold totF
        show (match getL (updL s.legs id fun x => { x with closed := true }) id' with | none => 0 | some x => tot x) = (match getL s.legs id' with | none => 0 | some x => tot x)
        rw [hg]
        generalize getL s.legs id' = q
        by_cases ee : id' = id
        · rw [if_pos ee]
          rcases q with _ | x0 <;> rfl
        · rw [if_neg ee]

/-! ### What is wanted -/
theorem idF_mod (k : Nat) : idF (k % 6) = idF k := by unfold idF; rw [Nat.mod_mod]
theorem idF_inj {i j : Nat} (hi : i < 6) (hj : j < 6) (h : idF i = idF j) : i = j := by
  have key : ∀ i, i < 6 → ∀ j, j < 6 → idF i = idF j → i = j := by decide
  exact key i hi j hj h
/-- What a call of act a adds on its legs. -/
def byF (a : Cal) : Int := if a.kind % 7 = 5 then -a.n else a.n
def addW (ws : List Int) (k : Nat) (b : Int) : List Int := ws.set k (ws.getD k 0 + b)
def wantS (ws : List Int) (a : Cal) : List Int := if a.more % 4 = 0 then addW (addW ws (a.leg % 6) (byF a)) (a.more / 4 % 6) (byF a) else addW ws (a.leg % 6) (byF a)
/-- One call's share. -/
def limS (p : Stk × List Int) (a : Cal) : Stk × List Int :=
  if a.kind % 7 = 6 then p else if (doF p.1 a).1 ≠ 0 ∨ a.kind % 7 < 2 then ((doF p.1 a).2, p.2) else ((doF p.1 a).2, wantS p.2 a)
structure LimInv (B : Int) (p : Stk × List Int) : Prop where
  ok : StkOk B p.1
  lim : LimOk p.1
  len : p.2.length = 6
  want : ∀ k v, p.2[k]? = some v → v = totF p.1 (idF k)
theorem addW_get {ws : List Int} {k j : Nat} {b v : Int} (hl : k < ws.length) (h : (addW ws k b)[j]? = some v) : ∃ u, ws[j]? = some u ∧ v = u + if j = k then b else 0 := by
  unfold addW at h
  rw [List.getElem?_set] at h
  split at h
  · rename_i e
    subst e
    first | rw [if_pos hl] at h | skip
    cases h
    exact ⟨ws[k], List.getElem?_eq_getElem hl, by simp [List.getD_eq_getElem?_getD, hl]⟩
  · rename_i e
    exact ⟨v, h, by rw [if_neg (fun h => e h.symm)]; omega⟩
theorem addW_len (ws : List Int) (k : Nat) (b : Int) : (addW ws k b).length = ws.length := by simp [addW]
theorem ids_mem (a : Cal) (h : idsF a ≠ []) (hnd : (idsF a).Nodup) {k : Nat} (hk : k < 6) (b : Int) : (if idF k ∈ idsF a then b else 0) = (if k = a.leg % 6 then b else 0) + if a.more % 4 = 0 ∧ k = a.more / 4 % 6 then b else 0 := by
  have e1 : idF k = idF a.leg ↔ k = a.leg % 6 := by
    rw [← idF_mod a.leg]
    exact ⟨fun e => idF_inj hk (Nat.mod_lt _ (by omega)) e, fun e => by rw [e]⟩
  have e2 : idF k = idF (a.more / 4) ↔ k = a.more / 4 % 6 := by
    rw [← idF_mod (a.more / 4)]
    exact ⟨fun e => idF_inj hk (Nat.mod_lt _ (by omega)) e, fun e => by rw [e]⟩
  unfold idsF at h hnd ⊢
  by_cases h4 : a.more % 4 = 0
  · rw [if_pos h4] at hnd ⊢
    have hne : idF a.leg ≠ idF (a.more / 4) := by simpa using hnd
    simp only [List.mem_cons, List.not_mem_nil, or_false, e1, e2, h4, true_and]
    by_cases q1 : k = a.leg % 6
    · by_cases q2 : k = a.more / 4 % 6
      · exact absurd ((e1.2 q1).symm.trans (e2.2 q2)) hne
      · rw [if_pos (.inl q1), if_pos q1, if_neg q2]; omega
    · by_cases q2 : k = a.more / 4 % 6
      · rw [if_pos (.inr q2), if_neg q1, if_pos q2]; omega
      · rw [if_neg (by simp [q1, q2]), if_neg q1, if_neg q2]; rfl
  · rw [if_neg h4] at h ⊢
    split at h
    · exact absurd rfl h
    · rename_i h5
      rw [if_neg h5]
      simp only [List.mem_cons, List.not_mem_nil, or_false, e1, h4, false_and, if_false]
      omega
theorem wantS_get {ws : List Int} (hl : ws.length = 6) {a : Cal} {k : Nat} {v : Int} (h : (wantS ws a)[k]? = some v) : ∃ u, ws[k]? = some u ∧ v = u + ((if k = a.leg % 6 then byF a else 0) + if a.more % 4 = 0 ∧ k = a.more / 4 % 6 then byF a else 0) := by
  have m1 : a.leg % 6 < ws.length := by rw [hl]; exact Nat.mod_lt _ (by omega)
  have m2 : a.more / 4 % 6 < (addW ws (a.leg % 6) (byF a)).length := by rw [addW_len, hl]; exact Nat.mod_lt _ (by omega)
  unfold wantS at h
  split at h
  · rename_i h4
    obtain ⟨u, h1, rfl⟩ := addW_get m2 h
    obtain ⟨w, h2, rfl⟩ := addW_get m1 h1
    exact ⟨w, h2, by simp only [h4, true_and]; omega⟩
  · rename_i h4
    obtain ⟨u, h1, rfl⟩ := addW_get m1 h
    exact ⟨u, h1, by simp only [h4, false_and, if_false]; omega⟩
theorem wantS_len {ws : List Int} (a : Cal) : (wantS ws a).length = ws.length := by
  unfold wantS; split <;> simp [addW_len]
theorem limS_inv {B : Int} {p : Stk × List Int} (h : LimInv B p) (hB : 0 ≤ B) (hB2 : B ≤ 9999) {a : Cal} (ha : a.Ok) : LimInv (B + 127) (limS p a) := by
  unfold limS
  split
  · exact ⟨h.ok.mono (by omega), h.lim, h.len, h.want⟩
  rename_i h6
  have hok := doF_ok h.ok hB hB2 ha
  have hk : a.kind % 7 < 7 := Nat.mod_lt _ (by omega)
  split
  · rename_i hc
    by_cases h2 : a.kind % 7 < 2
    · obtain h0 | h1 : a.kind % 7 = 0 ∨ a.kind % 7 = 1 := by omega
      · have e : doF p.1 a = p.1.open (idF a.leg) (equipF p.1.l a.eq) := by unfold doF; rw [h0]; rfl
        rw [e] at hok ⊢
        obtain ⟨g1, g2⟩ := open_lim h.ok h.lim (idF a.leg) (equipF p.1.l a.eq)
        exact ⟨hok, g1, h.len, fun k v hv => by rw [g2]; exact h.want k v hv⟩
      · have e : doF p.1 a = p.1.close (idF a.leg) := by unfold doF; rw [h1]; rfl
        rw [e] at hok ⊢
        obtain ⟨g1, g2⟩ := close_lim h.lim (idF a.leg)
        exact ⟨hok, g1, h.len, fun k v hv => by rw [g2]; exact h.want k v hv⟩
    · have hne : (doF p.1 a).1 ≠ 0 := by rcases hc with hc | hc; exact hc; exact absurd hc h2
      have e : (doF p.1 a).2 = p.1 := by
        by_cases h5 : a.kind % 7 = 5
        · have e : doF p.1 a = p.1.cancel (idsF a) (clsN a.cl) a.n := by unfold doF; rw [h5]; rfl
          rw [e] at hne ⊢
          exact cancel_err hne
        · have e : doF p.1 a = p.1.sell (idsF a) (clsN a.cl) a.n := by
            unfold doF
            split <;> first | omega | rfl
          rw [e] at hne ⊢
          exact sell_err hne
      rw [e]
      exact ⟨h.ok.mono (by omega), h.lim, h.len, h.want⟩
  · rename_i hc
    have hz : (doF p.1 a).1 = 0 := Classical.not_not.1 fun h => hc (.inl h)
    have h2 : ¬ a.kind % 7 < 2 := fun h => hc (.inr h)
    have fin : ∀ w, byF a = w → (idsF a).Nodup → idsF a ≠ [] → (∀ id ∈ idsF a, ∃ x q, p.1.get id = some x ∧ placeF (clsN a.cl) 0 x.cfg.cabs = some q) → (doF p.1 a).2 = { p.1 with legs := addIds (clsN a.cl) w (idsF a) p.1.legs } → (w ≤ 0 ∨ ∀ id ∈ idsF a, ∀ x, p.1.get id = some x → w ≤ leftF x (clsN a.cl)) → LimInv (B + 127) ((doF p.1 a).2, wantS p.2 a) := by
      intro w hw hnd hne hall e hlim
      refine ⟨hok, ?_, by rw [wantS_len]; exact h.len, fun k v hv => ?_⟩
      · show LimOk (doF p.1 a).2
        rw [e]
        exact add_lim h.ok h.lim hnd hlim
      · obtain ⟨u, hu, rfl⟩ := wantS_get h.len hv
        have hk6 : k < 6 := by have := lt_of_get hu; rw [h.len] at this; exact this
        show _ = totF (doF p.1 a).2 (idF k)
        rw [e, add_tot h.ok hnd hall, ids_mem a hne hnd hk6, h.want k u hu, hw]
    by_cases h5 : a.kind % 7 = 5
    · have e : doF p.1 a = p.1.cancel (idsF a) (clsN a.cl) a.n := by unfold doF; rw [h5]; rfl
      rw [e] at hz
      obtain ⟨g1, g2⟩ := cancel_inv hz
      obtain ⟨n1, n2, n3, n4⟩ := named_inv g2
      exact fin (-a.n) (by unfold byF; rw [if_pos h5]) n3 n2 n4 (by rw [e]; exact g1) (.inl (by omega))
    · have e : doF p.1 a = p.1.sell (idsF a) (clsN a.cl) a.n := by
        unfold doF
        split <;> first | omega | rfl
      rw [e] at hz
      obtain ⟨g1, g2, g3⟩ := sell_inv hz
      obtain ⟨n1, n2, n3, n4⟩ := named_inv g2
      exact fin a.n (by unfold byF; rw [if_neg h5]) n3 n2 n4 (by rw [e]; exact g1) (.inr g3)
def limF6 (l : List Cfg) (x : Bool) (acts : List Cal) : Stk × List Int := acts.foldl limS (⟨l, x, []⟩, List.replicate 6 0)
theorem limF6_succ {l : List Cfg} {x : Bool} {acts : List Cal} {i : Nat} {a : Cal} (h : acts[i]? = some a) : limF6 l x (acts.take (i + 1)) = limS (limF6 l x (acts.take i)) a := by
  obtain ⟨hl, hx⟩ := List.getElem?_eq_some_iff.1 h
  unfold limF6
  rw [List.take_succ_eq_append_getElem hl, List.foldl_append, hx]
  rfl
set_option linter.unusedSimpArgs false

theorem awake15_c {n : Nat} (hn : 1 ≤ n) (st : Bool) (S : List Ob) : callD E (dcall E n) st S 26 [] = some (.bool true, S) := by
  obtain ⟨q, rfl⟩ : ∃ q, n = q + 1 := ⟨n - 1, by omega⟩
  exact callD_pure (T := []) rfl rfl rfl rfl
section
variable {S : List Ob} {lab : Lab} {o k m n : Nat} {s : Stk} {ps : List (D × D)} {id : Lid}
/-- The numbers sold on a leg. -/
def soldV (s : Stk) (id : Lid) : List Int := (s.counts id).map (·.2)
theorem soldV_rng (ok : StkOk 9999 s) (id : Lid) : rngI (soldV s id) ∧ (soldV s id).length ≤ 1000 ∧ (soldV s id).sum = totF s id := by
  unfold soldV Stk.counts totF
  rcases e : s.get id with _ | x
  · exact ⟨fun v h => by simp at h, by simp, rfl⟩
  · have hok := ok.get e
    have hl4 := hok.cfg.l2
    have h1 := slC_len hok.cfg.sm.cls x.cfg.cabs.length
    have e2 : (countsF x).map (·.2) = (slotsF x.cfg).map fun q => soldAt x.sold q.1 q.2.1 := by unfold countsF; rw [List.map_map]; rfl
    dsimp only
    rw [e2]
    refine ⟨fun v hv => ?_, ?_, slots_tot hok⟩
    · obtain ⟨q, -, rfl⟩ := List.mem_map.1 hv
      exact soldAt_bd hok (by omega) _ _
    · rw [List.length_map]
      unfold slotsF
      omega
set_option maxHeartbeats 4000000 in
set_option maxRecDepth 100000 in
theorem sum_c (hn : 1010 ≤ n) (h : StkAt S lab o kL (.loc k 0 0) s k m ps) (ok : StkOk 9999 s) (hid : id.Ok) (st : Bool) :
    callD E (dcall E n) st S 31 [.loc k 0 0, .agg id.enc] = some (.int .i64 (totF s id), S) := by
  obtain ⟨q, rfl⟩ : ∃ q, n = q + 1 := ⟨n - 1, by omega⟩
  obtain ⟨hr, hl, hsum⟩ := soldV_rng ok id
  have hT := h.push [.row 4 [id.enc]]
  obtain ⟨d, T, cc, hg, hx, -⟩ := Counts_c (n := q) (by omega) hT ok hid
  have hSx : ExtS S T := fun j y hj => hx j y (get_old hj)
  have hlc : (s.counts id).length = (soldV s id).length := by unfold soldV; rw [List.length_map]
  have : WO (dcall E (q + 1) 31 [.loc k 0 0, .agg id.enc] S) fun r U => r = .int .i64 (totF s id) ∧ ExtS S U := by
    refine wo_dcall Tryz.func31 rfl (by decide) rfl 25 rfl (fun a hal ha => ?_)
    have h0 : a[0]? = some (.loc k 0 0) := ha 0 (by simp)
    have h1 : a[1]? = some (.agg id.enc) := ha 1 (by simp)
    clear ha
    simp only [Lid.enc] at h1 cc
    rcases hg with ⟨rfl, hnil⟩ | ⟨r, rfl, hk⟩
    · have hv : soldV s id = [] := by unfold soldV; rw [hnil]; rfl
      rw [hv] at hsum
      rw [← hsum]
      simp (maxSteps := 1000000) (disch := omega) only [push_cast, ↓wc_seq, ↓wc_block, ↓wc_scope, ↓wc_condL, ↓wc_region, ↓wr_cons, ↓wr_consgL, ↓wr_nil, ↓wo_pickL, ↓wo_callf, ↓wc_exit, ↓wc_ret, ↓wc_skip, ↓wc_wl, wo_some, wo_none, wo_ite, opQ_eq, seqQ_normal, seqQ_exit, seqQ_ret, blockQ_normal, blockQ_exit, blockQ_ret, iterQ_normal, iterQ_exit, iterQ_ret, retQ_normal, retQ_ret, retQ_exit, pickC_true, pickC_false, pickO_true, pickO_false, gstep_tt, gstep_ff, gstep_tf, gstep_ft, gstep_skip, int_bne, int_beq, decide_not, Nat.reduceAdd, Nat.reduceMul, Nat.reduceSub, Nat.reducePow, Nat.reduceLT, Nat.reduceLeDiff, Nat.reduceEqDiff, Int.reduceToNat, Int.reduceAdd, Int.reduceSub, Int.reduceNeg, Int.reduceMul, Int.reduceLT, Int.reduceLE, Int.reduceEq, le_max, ↓wo_build, ↓wo_buildSlice, evParts, ↓reduceIte, planIds, hasExt, cntFs, idxFs, clnFs, ovlFs, List.contains_cons, List.contains_nil, List.any_cons, List.any_nil, Nat.reduceBEq, setC, List.length_set, decide_eq_true_eq, decide_eq_false_iff_not, true_implies, false_implies, forall_const, reduceCtorEq, eq_self, Int.natCast_nonneg, Int.toNat_natCast, Int.ofNat_lt, D.int.injEq, Option.some.injEq, Nat.zero_add, Nat.add_zero, bne_iff_ne, bne_eq_false_iff_eq, beq_iff_eq, beq_eq_false_iff_ne, gt_iff_lt, ne_eq, not_true_eq_false, not_false_eq_true, planIds, hasExt, cntFs, idxFs, clnFs, ovlFs, List.contains_cons, List.contains_nil, List.any_cons, List.any_nil, Nat.reduceBEq, Nat.reduceMul, Nat.reduceAdd, ↓reduceIte, hal, h0, h1, get_end, set_end, cc, Int.natCast_zero]
      refine wl_loop (fun i a U => i = 0 ∧ U = T ∧ a.length = 25 ∧ a[5]? = some (.int .i64 0) ∧ a[6]? = some (.nils) ∧ a[7]? = some (.int .i64 0)) 0 ?_ (by omega) ?_
      · simp (maxSteps := 1000000) (disch := omega) only [push_cast, ↓wc_seq, ↓wc_block, ↓wc_scope, ↓wc_condL, ↓wc_region, ↓wr_cons, ↓wr_consgL, ↓wr_nil, ↓wo_pickL, ↓wo_callf, ↓wc_exit, ↓wc_ret, ↓wc_skip, ↓wc_wl, wo_some, wo_none, wo_ite, opQ_eq, seqQ_normal, seqQ_exit, seqQ_ret, blockQ_normal, blockQ_exit, blockQ_ret, iterQ_normal, iterQ_exit, iterQ_ret, retQ_normal, retQ_ret, retQ_exit, pickC_true, pickC_false, pickO_true, pickO_false, gstep_tt, gstep_ff, gstep_tf, gstep_ft, gstep_skip, int_bne, int_beq, decide_not, Nat.reduceAdd, Nat.reduceMul, Nat.reduceSub, Nat.reducePow, Nat.reduceLT, Nat.reduceLeDiff, Nat.reduceEqDiff, Int.reduceToNat, Int.reduceAdd, Int.reduceSub, Int.reduceNeg, Int.reduceMul, Int.reduceLT, Int.reduceLE, Int.reduceEq, le_max, ↓wo_build, ↓wo_buildSlice, evParts, ↓reduceIte, planIds, hasExt, cntFs, idxFs, clnFs, ovlFs, List.contains_cons, List.contains_nil, List.any_cons, List.any_nil, Nat.reduceBEq, setC, List.length_set, decide_eq_true_eq, decide_eq_false_iff_not, true_implies, false_implies, forall_const, reduceCtorEq, eq_self, Int.natCast_nonneg, Int.toNat_natCast, Int.ofNat_lt, D.int.injEq, Option.some.injEq, Nat.zero_add, Nat.add_zero, bne_iff_ne, bne_eq_false_iff_eq, beq_iff_eq, beq_eq_false_iff_ne, gt_iff_lt, ne_eq, not_true_eq_false, not_false_eq_true, planIds, hasExt, cntFs, idxFs, clnFs, ovlFs, List.contains_cons, List.contains_nil, List.any_cons, List.any_nil, Nat.reduceBEq, Nat.reduceMul, Nat.reduceAdd, ↓reduceIte, hal, h0, h1]
      clear hal h0 h1 a
      rintro i a U _ ⟨rfl, rfl, hal, h5, h6, h7⟩
      simp (maxSteps := 1000000) (disch := omega) only [push_cast, ↓wc_seq, ↓wc_block, ↓wc_scope, ↓wc_condL, ↓wc_region, ↓wr_cons, ↓wr_consgL, ↓wr_nil, ↓wo_pickL, ↓wo_callf, ↓wc_exit, ↓wc_ret, ↓wc_skip, ↓wc_wl, wo_some, wo_none, wo_ite, opQ_eq, seqQ_normal, seqQ_exit, seqQ_ret, blockQ_normal, blockQ_exit, blockQ_ret, iterQ_normal, iterQ_exit, iterQ_ret, retQ_normal, retQ_ret, retQ_exit, pickC_true, pickC_false, pickO_true, pickO_false, gstep_tt, gstep_ff, gstep_tf, gstep_ft, gstep_skip, int_bne, int_beq, decide_not, Nat.reduceAdd, Nat.reduceMul, Nat.reduceSub, Nat.reducePow, Nat.reduceLT, Nat.reduceLeDiff, Nat.reduceEqDiff, Int.reduceToNat, Int.reduceAdd, Int.reduceSub, Int.reduceNeg, Int.reduceMul, Int.reduceLT, Int.reduceLE, Int.reduceEq, le_max, ↓wo_build, ↓wo_buildSlice, evParts, ↓reduceIte, planIds, hasExt, cntFs, idxFs, clnFs, ovlFs, List.contains_cons, List.contains_nil, List.any_cons, List.any_nil, Nat.reduceBEq, setC, List.length_set, decide_eq_true_eq, decide_eq_false_iff_not, true_implies, false_implies, forall_const, reduceCtorEq, eq_self, Int.natCast_nonneg, Int.toNat_natCast, Int.ofNat_lt, D.int.injEq, Option.some.injEq, Nat.zero_add, Nat.add_zero, bne_iff_ne, bne_eq_false_iff_eq, beq_iff_eq, beq_eq_false_iff_ne, gt_iff_lt, ne_eq, not_true_eq_false, not_false_eq_true, planIds, hasExt, cntFs, idxFs, clnFs, ovlFs, List.contains_cons, List.contains_nil, List.any_cons, List.any_nil, Nat.reduceBEq, Nat.reduceMul, Nat.reduceAdd, ↓reduceIte, hal, h5, h6, h7, Int.lt_irrefl, List.sum_nil, Tryz.f31]
      exact hSx
    · simp (maxSteps := 1000000) (disch := omega) only [push_cast, ↓wc_seq, ↓wc_block, ↓wc_scope, ↓wc_condL, ↓wc_region, ↓wr_cons, ↓wr_consgL, ↓wr_nil, ↓wo_pickL, ↓wo_callf, ↓wc_exit, ↓wc_ret, ↓wc_skip, ↓wc_wl, wo_some, wo_none, wo_ite, opQ_eq, seqQ_normal, seqQ_exit, seqQ_ret, blockQ_normal, blockQ_exit, blockQ_ret, iterQ_normal, iterQ_exit, iterQ_ret, retQ_normal, retQ_ret, retQ_exit, pickC_true, pickC_false, pickO_true, pickO_false, gstep_tt, gstep_ff, gstep_tf, gstep_ft, gstep_skip, int_bne, int_beq, decide_not, Nat.reduceAdd, Nat.reduceMul, Nat.reduceSub, Nat.reducePow, Nat.reduceLT, Nat.reduceLeDiff, Nat.reduceEqDiff, Int.reduceToNat, Int.reduceAdd, Int.reduceSub, Int.reduceNeg, Int.reduceMul, Int.reduceLT, Int.reduceLE, Int.reduceEq, le_max, ↓wo_build, ↓wo_buildSlice, evParts, ↓reduceIte, planIds, hasExt, cntFs, idxFs, clnFs, ovlFs, List.contains_cons, List.contains_nil, List.any_cons, List.any_nil, Nat.reduceBEq, setC, List.length_set, decide_eq_true_eq, decide_eq_false_iff_not, true_implies, false_implies, forall_const, reduceCtorEq, eq_self, Int.natCast_nonneg, Int.toNat_natCast, Int.ofNat_lt, D.int.injEq, Option.some.injEq, Nat.zero_add, Nat.add_zero, bne_iff_ne, bne_eq_false_iff_eq, beq_iff_eq, beq_eq_false_iff_ne, gt_iff_lt, ne_eq, not_true_eq_false, not_false_eq_true, planIds, hasExt, cntFs, idxFs, clnFs, ovlFs, List.contains_cons, List.contains_nil, List.any_cons, List.any_nil, Nat.reduceBEq, Nat.reduceMul, Nat.reduceAdd, ↓reduceIte, hal, h0, h1, get_end, set_end, cc, Int.natCast_zero]
      refine wl_loop (fun i a U => U = T ∧ a.length = 25 ∧ a[5]? = some (.int .i64 ((soldV s id).take i).sum) ∧ a[6]? = some (.os r 0 (s.counts id).length false) ∧ a[7]? = some (.int .i64 i)) (s.counts id).length ?_ (by omega) ?_
      · simp (maxSteps := 1000000) (disch := omega) only [push_cast, ↓wc_seq, ↓wc_block, ↓wc_scope, ↓wc_condL, ↓wc_region, ↓wr_cons, ↓wr_consgL, ↓wr_nil, ↓wo_pickL, ↓wo_callf, ↓wc_exit, ↓wc_ret, ↓wc_skip, ↓wc_wl, wo_some, wo_none, wo_ite, opQ_eq, seqQ_normal, seqQ_exit, seqQ_ret, blockQ_normal, blockQ_exit, blockQ_ret, iterQ_normal, iterQ_exit, iterQ_ret, retQ_normal, retQ_ret, retQ_exit, pickC_true, pickC_false, pickO_true, pickO_false, gstep_tt, gstep_ff, gstep_tf, gstep_ft, gstep_skip, int_bne, int_beq, decide_not, Nat.reduceAdd, Nat.reduceMul, Nat.reduceSub, Nat.reducePow, Nat.reduceLT, Nat.reduceLeDiff, Nat.reduceEqDiff, Int.reduceToNat, Int.reduceAdd, Int.reduceSub, Int.reduceNeg, Int.reduceMul, Int.reduceLT, Int.reduceLE, Int.reduceEq, le_max, ↓wo_build, ↓wo_buildSlice, evParts, ↓reduceIte, planIds, hasExt, cntFs, idxFs, clnFs, ovlFs, List.contains_cons, List.contains_nil, List.any_cons, List.any_nil, Nat.reduceBEq, setC, List.length_set, decide_eq_true_eq, decide_eq_false_iff_not, true_implies, false_implies, forall_const, reduceCtorEq, eq_self, Int.natCast_nonneg, Int.toNat_natCast, Int.ofNat_lt, D.int.injEq, Option.some.injEq, Nat.zero_add, Nat.add_zero, bne_iff_ne, bne_eq_false_iff_eq, beq_iff_eq, beq_eq_false_iff_ne, gt_iff_lt, ne_eq, not_true_eq_false, not_false_eq_true, planIds, hasExt, cntFs, idxFs, clnFs, ovlFs, List.contains_cons, List.contains_nil, List.any_cons, List.any_nil, Nat.reduceBEq, Nat.reduceMul, Nat.reduceAdd, ↓reduceIte, hal, h0, h1, Int.natCast_zero, List.take_zero, List.sum_nil]
      clear hal h0 h1 a
      rintro i a U hi ⟨rfl, hal, h5, h6, h7⟩
      rcases Nat.lt_or_eq_of_le hi with hlt | rfl
      case inr =>
        rw [hlc, List.take_length, hsum] at h5
        simp (maxSteps := 1000000) (disch := omega) only [push_cast, ↓wc_seq, ↓wc_block, ↓wc_scope, ↓wc_condL, ↓wc_region, ↓wr_cons, ↓wr_consgL, ↓wr_nil, ↓wo_pickL, ↓wo_callf, ↓wc_exit, ↓wc_ret, ↓wc_skip, ↓wc_wl, wo_some, wo_none, wo_ite, opQ_eq, seqQ_normal, seqQ_exit, seqQ_ret, blockQ_normal, blockQ_exit, blockQ_ret, iterQ_normal, iterQ_exit, iterQ_ret, retQ_normal, retQ_ret, retQ_exit, pickC_true, pickC_false, pickO_true, pickO_false, gstep_tt, gstep_ff, gstep_tf, gstep_ft, gstep_skip, int_bne, int_beq, decide_not, Nat.reduceAdd, Nat.reduceMul, Nat.reduceSub, Nat.reducePow, Nat.reduceLT, Nat.reduceLeDiff, Nat.reduceEqDiff, Int.reduceToNat, Int.reduceAdd, Int.reduceSub, Int.reduceNeg, Int.reduceMul, Int.reduceLT, Int.reduceLE, Int.reduceEq, le_max, ↓wo_build, ↓wo_buildSlice, evParts, ↓reduceIte, planIds, hasExt, cntFs, idxFs, clnFs, ovlFs, List.contains_cons, List.contains_nil, List.any_cons, List.any_nil, Nat.reduceBEq, setC, List.length_set, decide_eq_true_eq, decide_eq_false_iff_not, true_implies, false_implies, forall_const, reduceCtorEq, eq_self, Int.natCast_nonneg, Int.toNat_natCast, Int.ofNat_lt, D.int.injEq, Option.some.injEq, Nat.zero_add, Nat.add_zero, bne_iff_ne, bne_eq_false_iff_eq, beq_iff_eq, beq_eq_false_iff_ne, gt_iff_lt, ne_eq, not_true_eq_false, not_false_eq_true, planIds, hasExt, cntFs, idxFs, clnFs, ovlFs, List.contains_cons, List.contains_nil, List.any_cons, List.any_nil, Nat.reduceBEq, Nat.reduceMul, Nat.reduceAdd, ↓reduceIte, hal, h5, h6, h7, Int.lt_irrefl, Tryz.f31]
        exact hSx
      have hlc' : (i : Int) < (s.counts id).length := by omega
      obtain ⟨w, hw⟩ : ∃ w, (s.counts id)[i]? = some w := ⟨(s.counts id)[i], by simp⟩
      have hv : (soldV s id)[i]? = some w.2 := by unfold soldV; rw [List.getElem?_map, hw]; rfl
      have htk := take_sum hv
      have h9 := sum_le9 hr i
      have hwb := hr w.2 (mem_at hv)
      simp (maxSteps := 1000000) (disch := omega) only [push_cast, ↓wc_seq, ↓wc_block, ↓wc_scope, ↓wc_condL, ↓wc_region, ↓wr_cons, ↓wr_consgL, ↓wr_nil, ↓wo_pickL, ↓wo_callf, ↓wc_exit, ↓wc_ret, ↓wc_skip, ↓wc_wl, wo_some, wo_none, wo_ite, opQ_eq, seqQ_normal, seqQ_exit, seqQ_ret, blockQ_normal, blockQ_exit, blockQ_ret, iterQ_normal, iterQ_exit, iterQ_ret, retQ_normal, retQ_ret, retQ_exit, pickC_true, pickC_false, pickO_true, pickO_false, gstep_tt, gstep_ff, gstep_tf, gstep_ft, gstep_skip, int_bne, int_beq, decide_not, Nat.reduceAdd, Nat.reduceMul, Nat.reduceSub, Nat.reducePow, Nat.reduceLT, Nat.reduceLeDiff, Nat.reduceEqDiff, Int.reduceToNat, Int.reduceAdd, Int.reduceSub, Int.reduceNeg, Int.reduceMul, Int.reduceLT, Int.reduceLE, Int.reduceEq, le_max, ↓wo_build, ↓wo_buildSlice, evParts, ↓reduceIte, planIds, hasExt, cntFs, idxFs, clnFs, ovlFs, List.contains_cons, List.contains_nil, List.any_cons, List.any_nil, Nat.reduceBEq, setC, List.length_set, decide_eq_true_eq, decide_eq_false_iff_not, true_implies, false_implies, forall_const, reduceCtorEq, eq_self, Int.natCast_nonneg, Int.toNat_natCast, Int.ofNat_lt, D.int.injEq, Option.some.injEq, Nat.zero_add, Nat.add_zero, bne_iff_ne, bne_eq_false_iff_eq, beq_iff_eq, beq_eq_false_iff_ne, gt_iff_lt, ne_eq, not_true_eq_false, not_false_eq_true, planIds, hasExt, cntFs, idxFs, clnFs, ovlFs, List.contains_cons, List.contains_nil, List.any_cons, List.any_nil, Nat.reduceBEq, Nat.reduceMul, Nat.reduceAdd, ↓reduceIte, hal, h5, h6, h7, hlt, hlc', hk, hw, htk, List.getElem?_map, encC, wrap_ok, Int.natCast_add, Int.natCast_one]
  obtain ⟨_, U, ho, rfl, hx'⟩ := this
  exact callD_obsS rfl rfl ho hx' rfl
end
/-! ### Resize as plain data -/
theorem resize_tot {B : Int} {s : Stk} (ok : StkOk B s) (hB : 0 ≤ B) (hB2 : B ≤ 9999) (id : Lid) (e : ByteArray) (id' : Lid) : totF (s.resize id e).2 id' = totF s id' := by
  unfold Stk.resize
  rcases e1 : s.get id with _ | x
  · rfl
  rcases e2 : findF s.l e with _ | b
  · rfl
  dsimp only
  unfold totF
  show (match getL (updL s.legs id (resizeF · b)) id' with | none => 0 | some x => tot x) = (match getL s.legs id' with | none => 0 | some x => tot x)
  rw [getL_upd]
  by_cases ee : id' = id
  · subst ee
    have e1' : getL s.legs id' = some x := e1
    rw [if_pos rfl, e1']
    obtain ⟨hm, he⟩ := findF_mem e2
    exact (resizeF_ok (ok.get e1) hB hB2 (ok.cfgs.cfg b hm) (by rw [he]; exact e2)).2
  · rw [if_neg ee]
theorem resize_ok {s : Stk} {id : Lid} {e : ByteArray} {x : Leg} {b : Cfg} (e1 : s.get id = some x) (e2 : findF s.l e = some b) : (s.resize id e).1 = 0 ∧ (s.resize id e).2.equip id = some e := by
  unfold Stk.resize
  rw [e1, e2]
  refine ⟨rfl, ?_⟩
  show (getL (updL s.legs id (resizeF · b)) id).map (·.cfg.equip) = some e
  have e1' : getL s.legs id = some x := e1
  rw [getL_upd, if_pos rfl, e1']
  obtain ⟨hm, he⟩ := findF_mem e2
  show some (resizeF x b).cfg.equip = some e
  rw [← he]; rfl
theorem resize_no {s : Stk} {id : Lid} {e : ByteArray} (h : s.get id = none ∨ findF s.l e = none) : s.resize id e = (7, s) := by
  unfold Stk.resize
  rcases h with h | h
  · rw [h]
  · rw [h]
    rcases s.get id with _ | x <;> rfl
theorem known_c {n : Nat} {l : List Cfg} {lx : Bool} (hn : 200 ≤ n) (hl : l.length ≤ 100) (e : ByteArray) (st : Bool) (S : List Ob) : callD E (dcall E n) st S 40 [.sl 2 (l.map Cfg.enc) lx, .str e] = some (.bool (findF l e).isSome, S) := by
  obtain ⟨q, rfl⟩ : ∃ q, n = q + 1 := ⟨n - 1, by omega⟩
  have cf := rFind_c (n := q) (l := l) (x := lx) (e := e) (by omega) hl
  have : WO (dcall E (q + 1) 40 [.sl 2 (l.map Cfg.enc) lx, .str e] []) fun r U => r = .bool (findF l e).isSome := by
    refine wo_dcall Tryz.func40 rfl (by decide) rfl 14 rfl (fun a hal ha => ?_)
    have h0 : a[0]? = some (.sl 2 (l.map Cfg.enc) lx) := ha 0 (by simp)
    have h1 : a[1]? = some (.str e) := ha 1 (by simp)
    clear ha
    rcases hf : findF l e with _ | c
    · rw [hf] at cf
      simp only [foundC] at cf
      simp (maxSteps := 1000000) (disch := omega) only [push_cast, ↓wc_seq, ↓wc_block, ↓wc_scope, ↓wc_condL, ↓wc_region, ↓wr_cons, ↓wr_consgL, ↓wr_nil, ↓wo_pickL, ↓wo_callf, ↓wc_exit, ↓wc_ret, ↓wc_skip, ↓wc_wl, wo_some, wo_none, wo_ite, opQ_eq, seqQ_normal, seqQ_exit, seqQ_ret, blockQ_normal, blockQ_exit, blockQ_ret, iterQ_normal, iterQ_exit, iterQ_ret, retQ_normal, retQ_ret, retQ_exit, pickC_true, pickC_false, pickO_true, pickO_false, gstep_tt, gstep_ff, gstep_tf, gstep_ft, gstep_skip, int_bne, int_beq, decide_not, Nat.reduceAdd, Nat.reduceMul, Nat.reduceSub, Nat.reducePow, Nat.reduceLT, Nat.reduceLeDiff, Nat.reduceEqDiff, Int.reduceToNat, Int.reduceAdd, Int.reduceSub, Int.reduceNeg, Int.reduceMul, Int.reduceLT, Int.reduceLE, Int.reduceEq, le_max, ↓wo_build, ↓wo_buildSlice, evParts, ↓reduceIte, planIds, hasExt, cntFs, idxFs, clnFs, ovlFs, List.contains_cons, List.contains_nil, List.any_cons, List.any_nil, Nat.reduceBEq, setC, List.length_set, decide_eq_true_eq, decide_eq_false_iff_not, true_implies, false_implies, forall_const, reduceCtorEq, eq_self, Int.natCast_nonneg, Int.toNat_natCast, Int.ofNat_lt, D.int.injEq, Option.some.injEq, Nat.zero_add, Nat.add_zero, bne_iff_ne, bne_eq_false_iff_eq, beq_iff_eq, beq_eq_false_iff_ne, gt_iff_lt, ne_eq, not_true_eq_false, not_false_eq_true, planIds, hasExt, cntFs, idxFs, clnFs, ovlFs, List.contains_cons, List.contains_nil, List.any_cons, List.any_nil, Nat.reduceBEq, Nat.reduceMul, Nat.reduceAdd, ↓reduceIte, hal, h0, h1, cf, set_end, get_end, Tryz.f40]
    · rw [hf] at cf
      simp only [foundC, Cfg.enc] at cf
      simp (maxSteps := 1000000) (disch := omega) only [push_cast, ↓wc_seq, ↓wc_block, ↓wc_scope, ↓wc_condL, ↓wc_region, ↓wr_cons, ↓wr_consgL, ↓wr_nil, ↓wo_pickL, ↓wo_callf, ↓wc_exit, ↓wc_ret, ↓wc_skip, ↓wc_wl, wo_some, wo_none, wo_ite, opQ_eq, seqQ_normal, seqQ_exit, seqQ_ret, blockQ_normal, blockQ_exit, blockQ_ret, iterQ_normal, iterQ_exit, iterQ_ret, retQ_normal, retQ_ret, retQ_exit, pickC_true, pickC_false, pickO_true, pickO_false, gstep_tt, gstep_ff, gstep_tf, gstep_ft, gstep_skip, int_bne, int_beq, decide_not, Nat.reduceAdd, Nat.reduceMul, Nat.reduceSub, Nat.reducePow, Nat.reduceLT, Nat.reduceLeDiff, Nat.reduceEqDiff, Int.reduceToNat, Int.reduceAdd, Int.reduceSub, Int.reduceNeg, Int.reduceMul, Int.reduceLT, Int.reduceLE, Int.reduceEq, le_max, ↓wo_build, ↓wo_buildSlice, evParts, ↓reduceIte, planIds, hasExt, cntFs, idxFs, clnFs, ovlFs, List.contains_cons, List.contains_nil, List.any_cons, List.any_nil, Nat.reduceBEq, setC, List.length_set, decide_eq_true_eq, decide_eq_false_iff_not, true_implies, false_implies, forall_const, reduceCtorEq, eq_self, Int.natCast_nonneg, Int.toNat_natCast, Int.ofNat_lt, D.int.injEq, Option.some.injEq, Nat.zero_add, Nat.add_zero, bne_iff_ne, bne_eq_false_iff_eq, beq_iff_eq, beq_eq_false_iff_ne, gt_iff_lt, ne_eq, not_true_eq_false, not_false_eq_true, planIds, hasExt, cntFs, idxFs, clnFs, ovlFs, List.contains_cons, List.contains_nil, List.any_cons, List.any_nil, Nat.reduceBEq, Nat.reduceMul, Nat.reduceAdd, ↓reduceIte, hal, h0, h1, cf, set_end, get_end, Tryz.f40]
  obtain ⟨_, U, ho, rfl⟩ := this
  exact callD_pure rfl (by simp [pureL_cons, pureL_nil, D.pure, Cfgs_pure]) ho rfl

/-! ### StockExact -/
set_option maxHeartbeats 8000000 in
set_option maxRecDepth 100000 in
theorem StockExact_d {n g kc : Nat} (hn : 1300 ≤ n) {l : List Cfg} {acts : List Cal} {lx ax : Bool} (hg6 : g ≤ 255) (hk : kc ≤ 255) (hz : ∀ c ∈ l, CfgZ (n - 3) c) (hacts : ∀ a ∈ acts, a.Ok) :
    ∃ T, dcall E (n + 1) 7 [.sl 2 (l.map Cfg.enc) lx, .sl 6 (acts.map Cal.enc) ax, .int .u8 g, .int .u8 kc] [] = some (.bool true, T) := by
  have cw := fun st S => awake15_c (n := n) (by omega) st S
  obtain ⟨rb, cr, hr⟩ := Right_c (n := n) (l := l) (acts := acts) (lx := lx) (ax := ax) (by omega) hz
  have ci := Id_c (n := n) (k := g) (by omega) hg6
  have cc := Class_c (n := n) (k := kc) (by omega) hk
  have hid := idF_ok g
  have : WO (dcall E (n + 1) 7 [.sl 2 (l.map Cfg.enc) lx, .sl 6 (acts.map Cal.enc) ax, .int .u8 g, .int .u8 kc] []) fun r T => r = .bool true := by
    refine wo_dcall Tryz.func7 rfl (by decide) rfl 70 rfl (fun a hal ha => ?_)
    have h0 : a[0]? = some (.sl 2 (l.map Cfg.enc) lx) := ha 0 (by simp)
    have h1 : a[1]? = some (.sl 6 (acts.map Cal.enc) ax) := ha 1 (by simp)
    have h2 : a[2]? = some (.int .u8 g) := ha 2 (by simp)
    have h3 : a[3]? = some (.int .u8 kc) := ha 3 (by simp)
    clear ha
    cases rb
    · simp (maxSteps := 1000000) (disch := omega) only [push_cast, ↓wc_seq, ↓wc_block, ↓wc_scope, ↓wc_condL, ↓wc_region, ↓wr_cons, ↓wr_consgL, ↓wr_nil, ↓wo_pickL, ↓wo_callf, ↓wc_exit, ↓wc_ret, ↓wc_skip, ↓wc_wl, wo_some, wo_none, wo_ite, opQ_eq, seqQ_normal, seqQ_exit, seqQ_ret, blockQ_normal, blockQ_exit, blockQ_ret, iterQ_normal, iterQ_exit, iterQ_ret, retQ_normal, retQ_ret, retQ_exit, pickC_true, pickC_false, pickO_true, pickO_false, gstep_tt, gstep_ff, gstep_tf, gstep_ft, gstep_skip, int_bne, int_beq, decide_not, Nat.reduceAdd, Nat.reduceMul, Nat.reduceSub, Nat.reducePow, Nat.reduceLT, Nat.reduceLeDiff, Nat.reduceEqDiff, Int.reduceToNat, Int.reduceAdd, Int.reduceSub, Int.reduceNeg, Int.reduceMul, Int.reduceLT, Int.reduceLE, Int.reduceEq, le_max, ↓wo_build, ↓wo_buildSlice, evParts, ↓reduceIte, planIds, hasExt, cntFs, idxFs, clnFs, ovlFs, List.contains_cons, List.contains_nil, List.any_cons, List.any_nil, Nat.reduceBEq, setC, List.length_set, decide_eq_true_eq, decide_eq_false_iff_not, true_implies, false_implies, forall_const, reduceCtorEq, eq_self, Int.natCast_nonneg, Int.toNat_natCast, Int.ofNat_lt, D.int.injEq, Option.some.injEq, Nat.zero_add, Nat.add_zero, bne_iff_ne, bne_eq_false_iff_eq, beq_iff_eq, beq_eq_false_iff_ne, gt_iff_lt, ne_eq, not_true_eq_false, not_false_eq_true, planIds, hasExt, cntFs, idxFs, clnFs, ovlFs, List.contains_cons, List.contains_nil, List.any_cons, List.any_nil, Nat.reduceBEq, Nat.reduceMul, Nat.reduceAdd, ↓reduceIte, hal, h0, h1, h2, h3, cr, cw, dUn, Tryz.f7]
    have hr := hr rfl
    have hg := good_of (n := n - 2) (by omega) hr.2.2 (fun c hc => hz c hc)
    obtain ⟨T, lab', p, cp, hs, hok, -⟩ := Played_c (S := []) (lab := fun _ => []) (o := 1) (n := n) (lx := lx) (ax := ax) (by omega) hg (fun _ _ => rfl) hr.2.1 hacts
    generalize playF ⟨l, lx, []⟩ acts = s at *
    generalize idF g = w at *
    generalize clsN kc = cl at *
    obtain ⟨hf, m, ps, hst⟩ := id hs
    have ok9 : StkOk 9999 s := hok.mono (by omega)
    have l1 := Left_c (n := n) (by omega) hst ok9 hid cl
    obtain ⟨e1, e2, e3⟩ := exact_law ok9 w cl
    have hle := left_le ok9 w cl
    have hdi : FLs 4 Lid.enc (.sl 4 [w.enc] true) [w] := .inr ⟨true, rfl⟩
    have hw1 : ∀ i ∈ [w], i.Ok := fun i hi => by
      have : i = w := by simpa using hi
      rw [this]; exact hid
    obtain ⟨T2, lab2, s1, hs2, -⟩ := Sell_c (n := n) (ids := [w]) (by omega) hs ok9 (by simp) hw1 hdi cl (s.left w cl + 1)
    rw [sell_err e2] at hs2
    obtain ⟨T3, lab3, s2, hs3, -⟩ := Sell_c (n := n) (ids := [w]) (by omega) hs2 ok9 (by simp) hw1 hdi cl (s.left w cl)
    have hneg : ¬ s.left w cl < 0 := by omega
    simp only [Lid.enc] at ci l1 s1 s2
    by_cases hz0 : s.left w cl = 0
    · simp only [hz0, Int.zero_add] at l1 s1 e2
      simp (maxSteps := 1000000) (disch := omega) only [push_cast, ↓wc_seq, ↓wc_block, ↓wc_scope, ↓wc_condL, ↓wc_region, ↓wr_cons, ↓wr_consgL, ↓wr_nil, ↓wo_pickL, ↓wo_callf, ↓wc_exit, ↓wc_ret, ↓wc_skip, ↓wc_wl, wo_some, wo_none, wo_ite, opQ_eq, seqQ_normal, seqQ_exit, seqQ_ret, blockQ_normal, blockQ_exit, blockQ_ret, iterQ_normal, iterQ_exit, iterQ_ret, retQ_normal, retQ_ret, retQ_exit, pickC_true, pickC_false, pickO_true, pickO_false, gstep_tt, gstep_ff, gstep_tf, gstep_ft, gstep_skip, int_bne, int_beq, decide_not, Nat.reduceAdd, Nat.reduceMul, Nat.reduceSub, Nat.reducePow, Nat.reduceLT, Nat.reduceLeDiff, Nat.reduceEqDiff, Int.reduceToNat, Int.reduceAdd, Int.reduceSub, Int.reduceNeg, Int.reduceMul, Int.reduceLT, Int.reduceLE, Int.reduceEq, le_max, ↓wo_build, ↓wo_buildSlice, evParts, ↓reduceIte, planIds, hasExt, cntFs, idxFs, clnFs, ovlFs, List.contains_cons, List.contains_nil, List.any_cons, List.any_nil, Nat.reduceBEq, setC, List.length_set, decide_eq_true_eq, decide_eq_false_iff_not, true_implies, false_implies, forall_const, reduceCtorEq, eq_self, Int.natCast_nonneg, Int.toNat_natCast, Int.ofNat_lt, D.int.injEq, Option.some.injEq, Nat.zero_add, Nat.add_zero, bne_iff_ne, bne_eq_false_iff_eq, beq_iff_eq, beq_eq_false_iff_ne, gt_iff_lt, ne_eq, not_true_eq_false, not_false_eq_true, planIds, hasExt, cntFs, idxFs, clnFs, ovlFs, List.contains_cons, List.contains_nil, List.any_cons, List.any_nil, Nat.reduceBEq, Nat.reduceMul, Nat.reduceAdd, ↓reduceIte, hal, h0, h1, h2, h3, cr, cw, cp, ci, cc, l1, s1, e2, Int.lt_irrefl, Int.zero_add, wrap_ok, dUn, Tryz.f7]
    · obtain ⟨e4, e5⟩ := e3 hz0
      have ok3 : StkOk 9999 (s.sell [w] cl (s.left w cl)).2 := (sell_keeps hok [w] cl _ hle (by omega)).mono (by omega)
      obtain ⟨hf3, m3, ps3, hst3⟩ := hs3
      have l3 := Left_c (n := n) (by omega) hst3 ok3 hid cl
      rw [e5] at l3
      rw [e4] at s2
      simp only [Lid.enc] at l3
      simp (maxSteps := 1000000) (disch := omega) only [push_cast, ↓wc_seq, ↓wc_block, ↓wc_scope, ↓wc_condL, ↓wc_region, ↓wr_cons, ↓wr_consgL, ↓wr_nil, ↓wo_pickL, ↓wo_callf, ↓wc_exit, ↓wc_ret, ↓wc_skip, ↓wc_wl, wo_some, wo_none, wo_ite, opQ_eq, seqQ_normal, seqQ_exit, seqQ_ret, blockQ_normal, blockQ_exit, blockQ_ret, iterQ_normal, iterQ_exit, iterQ_ret, retQ_normal, retQ_ret, retQ_exit, pickC_true, pickC_false, pickO_true, pickO_false, gstep_tt, gstep_ff, gstep_tf, gstep_ft, gstep_skip, int_bne, int_beq, decide_not, Nat.reduceAdd, Nat.reduceMul, Nat.reduceSub, Nat.reducePow, Nat.reduceLT, Nat.reduceLeDiff, Nat.reduceEqDiff, Int.reduceToNat, Int.reduceAdd, Int.reduceSub, Int.reduceNeg, Int.reduceMul, Int.reduceLT, Int.reduceLE, Int.reduceEq, le_max, ↓wo_build, ↓wo_buildSlice, evParts, ↓reduceIte, planIds, hasExt, cntFs, idxFs, clnFs, ovlFs, List.contains_cons, List.contains_nil, List.any_cons, List.any_nil, Nat.reduceBEq, setC, List.length_set, decide_eq_true_eq, decide_eq_false_iff_not, true_implies, false_implies, forall_const, reduceCtorEq, eq_self, Int.natCast_nonneg, Int.toNat_natCast, Int.ofNat_lt, D.int.injEq, Option.some.injEq, Nat.zero_add, Nat.add_zero, bne_iff_ne, bne_eq_false_iff_eq, beq_iff_eq, beq_eq_false_iff_ne, gt_iff_lt, ne_eq, not_true_eq_false, not_false_eq_true, planIds, hasExt, cntFs, idxFs, clnFs, ovlFs, List.contains_cons, List.contains_nil, List.any_cons, List.any_nil, Nat.reduceBEq, Nat.reduceMul, Nat.reduceAdd, ↓reduceIte, hal, h0, h1, h2, h3, cr, cw, cp, ci, cc, l1, s1, s2, l3, e2, hneg, hz0, wrap_ok, dUn, Tryz.f7]
  obtain ⟨_, T, ho, rfl⟩ := this
  exact ⟨T, ho⟩
set_option maxHeartbeats 8000000 in
set_option maxRecDepth 100000 in
theorem StockResizes_d {n : Nat} (hn : 1300 ≤ n) {l : List Cfg} {acts : List Cal} {lx ax : Bool} {a : Cal} (ha : a.Ok) (hz : ∀ c ∈ l, CfgZ (n - 3) c) (hacts : ∀ a ∈ acts, a.Ok) :
    ∃ T, dcall E (n + 1) 9 [.sl 2 (l.map Cfg.enc) lx, .sl 6 (acts.map Cal.enc) ax, .agg a.enc] [] = some (.bool true, T) := by
  have cw := fun st S => awake15_c (n := n) (by omega) st S
  obtain ⟨rb, cr, hr⟩ := Right_c (n := n) (l := l) (acts := acts) (lx := lx) (ax := ax) (by omega) hz
  obtain ⟨kd, g, mo, eq, cl, w⟩ := a
  obtain ⟨ha1, ha2, ha3, ha4, ha5, ha6, ha7⟩ := ha
  dsimp only at ha1 ha2 ha3 ha4 ha5 ha6 ha7
  have ci := Id_c (n := n) (k := g) (by omega) ha2
  have ce := equip_c (n := n) (k := eq) (l := l) (lx := lx) (by omega) ha4
  have hid := idF_ok g
  have : WO (dcall E (n + 1) 9 [.sl 2 (l.map Cfg.enc) lx, .sl 6 (acts.map Cal.enc) ax, .agg (Cal.enc ⟨kd, g, mo, eq, cl, w⟩)] []) fun r T => r = .bool true := by
    refine wo_dcall Tryz.func9 rfl (by decide) rfl 91 rfl (fun a hal ha => ?_)
    have h0 : a[0]? = some (.sl 2 (l.map Cfg.enc) lx) := ha 0 (by simp)
    have h1 : a[1]? = some (.sl 6 (acts.map Cal.enc) ax) := ha 1 (by simp)
    have h2 : a[2]? = some (.agg (Cal.enc ⟨kd, g, mo, eq, cl, w⟩)) := ha 2 (by simp)
    clear ha
    simp only [Cal.enc] at h2
    cases rb
    · simp (maxSteps := 1000000) (disch := omega) only [push_cast, ↓wc_seq, ↓wc_block, ↓wc_scope, ↓wc_condL, ↓wc_region, ↓wr_cons, ↓wr_consgL, ↓wr_nil, ↓wo_pickL, ↓wo_callf, ↓wc_exit, ↓wc_ret, ↓wc_skip, ↓wc_wl, wo_some, wo_none, wo_ite, opQ_eq, seqQ_normal, seqQ_exit, seqQ_ret, blockQ_normal, blockQ_exit, blockQ_ret, iterQ_normal, iterQ_exit, iterQ_ret, retQ_normal, retQ_ret, retQ_exit, pickC_true, pickC_false, pickO_true, pickO_false, gstep_tt, gstep_ff, gstep_tf, gstep_ft, gstep_skip, int_bne, int_beq, decide_not, Nat.reduceAdd, Nat.reduceMul, Nat.reduceSub, Nat.reducePow, Nat.reduceLT, Nat.reduceLeDiff, Nat.reduceEqDiff, Int.reduceToNat, Int.reduceAdd, Int.reduceSub, Int.reduceNeg, Int.reduceMul, Int.reduceLT, Int.reduceLE, Int.reduceEq, le_max, ↓wo_build, ↓wo_buildSlice, evParts, ↓reduceIte, planIds, hasExt, cntFs, idxFs, clnFs, ovlFs, List.contains_cons, List.contains_nil, List.any_cons, List.any_nil, Nat.reduceBEq, setC, List.length_set, decide_eq_true_eq, decide_eq_false_iff_not, true_implies, false_implies, forall_const, reduceCtorEq, eq_self, Int.natCast_nonneg, Int.toNat_natCast, Int.ofNat_lt, D.int.injEq, Option.some.injEq, Nat.zero_add, Nat.add_zero, bne_iff_ne, bne_eq_false_iff_eq, beq_iff_eq, beq_eq_false_iff_ne, gt_iff_lt, ne_eq, not_true_eq_false, not_false_eq_true, planIds, hasExt, cntFs, idxFs, clnFs, ovlFs, List.contains_cons, List.contains_nil, List.any_cons, List.any_nil, Nat.reduceBEq, Nat.reduceMul, Nat.reduceAdd, ↓reduceIte, hal, h0, h1, h2, cr, cw, dUn, Tryz.f9]
    have hr := hr rfl
    have hg := good_of (n := n - 2) (by omega) hr.2.2 (fun c hc => hz c hc)
    obtain ⟨T, lab', p, cp, hs, hok, hst0⟩ := Played_c (S := [Ob.row 6 [Cal.enc ⟨kd, g, mo, eq, cl, w⟩]]) (lab := fun _ => []) (o := 1) (n := n) (lx := lx) (ax := ax) (by omega) hg (fun _ _ => rfl) hr.2.1 hacts
    obtain ⟨pl, px⟩ := playF_l ⟨l, lx, []⟩ acts
    have hbx := (hst0.free (x := 0) (ob := Ob.row 6 [Cal.enc ⟨kd, g, mo, eq, cl, w⟩]) rfl rfl).1
    generalize playF ⟨l, lx, []⟩ acts = s at *
    generalize idF g = w at *
    have hsl : s.l.length ≤ 100 := by rw [pl]; have := hr.1; dsimp only; omega
    have hkn := known_c (n := n) (l := l) (lx := lx) (by omega) (by have := hr.1; omega) (equipF l eq)
    generalize equipF l eq = to at *
    have hs1 := hs.push [.row 4 [w.enc]]
    obtain ⟨hf, m, ps, hst⟩ := id hs1
    have ok9 : StkOk 9999 s := hok.mono (by omega)
    have c1 := sum_c (n := n) (by omega) hst ok9 hid
    have c2 := Equip_c (n := n) (by omega) hst hid
    obtain ⟨T2, lab2, c3, hs2, hst2⟩ := SResize_c (n := n) (by omega) hs1 ok9 hsl hid to
    have ok2 : StkOk 9999 (s.resize w to).2 := (resize_keeps hok (by omega) (by omega) w to).mono (by omega)
    obtain ⟨hf2, m2, ps2, hst3⟩ := id hs2
    have c4 := Equip_c (n := n) (by omega) hst3 hid
    have c5 := sum_c (n := n) (by omega) hst3 ok2 hid
    have hlT : (lab' T.length) = [] := hs.1 _ (Nat.le_refl _)
    have hb2 := (hst2.free (x := T.length) (ob := Ob.row 4 [w.enc]) get_end hlT).1
    rw [resize_tot ok9 (by omega) (by omega)] at c5
    have hbx1 := fun ob : Ob => get_old (J := [ob]) hbx
    simp only [Lid.enc, Cal.enc] at ci c1 c2 c3 c4 c5 hb2 cp hbx hbx1
    have hfl : findF s.l to = findF l to := by rw [pl]
    have fin : ((s.resize w to).1 = 0 ∧ (findF l to).isSome = true ∧ (∃ x, s.equip w = some x) ∧ (s.resize w to).2.equip w = some to) ∨ ((s.resize w to).1 = 7 ∧ (s.resize w to).2 = s ∧ ((s.equip w = none) ∨ (∃ x, s.equip w = some x) ∧ (findF l to).isSome = false)) := by
      rcases e1 : s.get w with _ | x
      · refine .inr ⟨by rw [resize_no (.inl e1)], by rw [resize_no (.inl e1)], .inl (by unfold Stk.equip; rw [e1]; rfl)⟩
      · rcases e2 : findF s.l to with _ | b
        · refine .inr ⟨by rw [resize_no (.inr e2)], by rw [resize_no (.inr e2)], .inr ⟨⟨_, by unfold Stk.equip; rw [e1]; rfl⟩, by rw [← hfl, e2]; rfl⟩⟩
        · obtain ⟨r1, r2⟩ := resize_ok e1 e2
          exact .inl ⟨r1, by rw [← hfl, e2]; rfl, ⟨_, by unfold Stk.equip; rw [e1]; rfl⟩, r2⟩
    rcases fin with ⟨f1, f2, ⟨x, f3⟩, f4⟩ | ⟨f1, f2, f3 | ⟨⟨x, f3⟩, f4⟩⟩
    · rw [f1] at c3
      rw [f3] at c2
      rw [f4] at c4
      rw [f2] at hkn
      simp only [equipD] at c2 c4
      simp (maxSteps := 1000000) (disch := omega) only [push_cast, ↓wc_seq, ↓wc_block, ↓wc_scope, ↓wc_condL, ↓wc_region, ↓wr_cons, ↓wr_consgL, ↓wr_nil, ↓wo_pickL, ↓wo_callf, ↓wc_exit, ↓wc_ret, ↓wc_skip, ↓wc_wl, wo_some, wo_none, wo_ite, opQ_eq, seqQ_normal, seqQ_exit, seqQ_ret, blockQ_normal, blockQ_exit, blockQ_ret, iterQ_normal, iterQ_exit, iterQ_ret, retQ_normal, retQ_ret, retQ_exit, pickC_true, pickC_false, pickO_true, pickO_false, gstep_tt, gstep_ff, gstep_tf, gstep_ft, gstep_skip, int_bne, int_beq, decide_not, Nat.reduceAdd, Nat.reduceMul, Nat.reduceSub, Nat.reducePow, Nat.reduceLT, Nat.reduceLeDiff, Nat.reduceEqDiff, Int.reduceToNat, Int.reduceAdd, Int.reduceSub, Int.reduceNeg, Int.reduceMul, Int.reduceLT, Int.reduceLE, Int.reduceEq, le_max, ↓wo_build, ↓wo_buildSlice, evParts, ↓reduceIte, planIds, hasExt, cntFs, idxFs, clnFs, ovlFs, List.contains_cons, List.contains_nil, List.any_cons, List.any_nil, Nat.reduceBEq, setC, List.length_set, decide_eq_true_eq, decide_eq_false_iff_not, true_implies, false_implies, forall_const, reduceCtorEq, eq_self, Int.natCast_nonneg, Int.toNat_natCast, Int.ofNat_lt, D.int.injEq, Option.some.injEq, Nat.zero_add, Nat.add_zero, bne_iff_ne, bne_eq_false_iff_eq, beq_iff_eq, beq_eq_false_iff_ne, gt_iff_lt, ne_eq, not_true_eq_false, not_false_eq_true, planIds, hasExt, cntFs, idxFs, clnFs, ovlFs, List.contains_cons, List.contains_nil, List.any_cons, List.any_nil, Nat.reduceBEq, Nat.reduceMul, Nat.reduceAdd, ↓reduceIte, hal, h0, h1, h2, cr, cw, cp, ci, ce, hbx, hbx1, c1, c2, c3, c4, c5, hb2, hkn, get_end, set_end, dUn, dEq, Tryz.f9]
    · rw [f1] at c3
      rw [f2] at c4
      rw [f3] at c2 c4
      simp only [equipD] at c2 c4
      simp (maxSteps := 1000000) (disch := omega) only [push_cast, ↓wc_seq, ↓wc_block, ↓wc_scope, ↓wc_condL, ↓wc_region, ↓wr_cons, ↓wr_consgL, ↓wr_nil, ↓wo_pickL, ↓wo_callf, ↓wc_exit, ↓wc_ret, ↓wc_skip, ↓wc_wl, wo_some, wo_none, wo_ite, opQ_eq, seqQ_normal, seqQ_exit, seqQ_ret, blockQ_normal, blockQ_exit, blockQ_ret, iterQ_normal, iterQ_exit, iterQ_ret, retQ_normal, retQ_ret, retQ_exit, pickC_true, pickC_false, pickO_true, pickO_false, gstep_tt, gstep_ff, gstep_tf, gstep_ft, gstep_skip, int_bne, int_beq, decide_not, Nat.reduceAdd, Nat.reduceMul, Nat.reduceSub, Nat.reducePow, Nat.reduceLT, Nat.reduceLeDiff, Nat.reduceEqDiff, Int.reduceToNat, Int.reduceAdd, Int.reduceSub, Int.reduceNeg, Int.reduceMul, Int.reduceLT, Int.reduceLE, Int.reduceEq, le_max, ↓wo_build, ↓wo_buildSlice, evParts, ↓reduceIte, planIds, hasExt, cntFs, idxFs, clnFs, ovlFs, List.contains_cons, List.contains_nil, List.any_cons, List.any_nil, Nat.reduceBEq, setC, List.length_set, decide_eq_true_eq, decide_eq_false_iff_not, true_implies, false_implies, forall_const, reduceCtorEq, eq_self, Int.natCast_nonneg, Int.toNat_natCast, Int.ofNat_lt, D.int.injEq, Option.some.injEq, Nat.zero_add, Nat.add_zero, bne_iff_ne, bne_eq_false_iff_eq, beq_iff_eq, beq_eq_false_iff_ne, gt_iff_lt, ne_eq, not_true_eq_false, not_false_eq_true, planIds, hasExt, cntFs, idxFs, clnFs, ovlFs, List.contains_cons, List.contains_nil, List.any_cons, List.any_nil, Nat.reduceBEq, Nat.reduceMul, Nat.reduceAdd, ↓reduceIte, hal, h0, h1, h2, cr, cw, cp, ci, ce, hbx, hbx1, c1, c2, c3, c4, c5, hb2, hkn, get_end, set_end, dUn, dEq, Tryz.f9]
    · rw [f1] at c3
      rw [f2] at c4
      rw [f3] at c2 c4
      rw [f4] at hkn
      simp only [equipD] at c2 c4
      simp (maxSteps := 1000000) (disch := omega) only [push_cast, ↓wc_seq, ↓wc_block, ↓wc_scope, ↓wc_condL, ↓wc_region, ↓wr_cons, ↓wr_consgL, ↓wr_nil, ↓wo_pickL, ↓wo_callf, ↓wc_exit, ↓wc_ret, ↓wc_skip, ↓wc_wl, wo_some, wo_none, wo_ite, opQ_eq, seqQ_normal, seqQ_exit, seqQ_ret, blockQ_normal, blockQ_exit, blockQ_ret, iterQ_normal, iterQ_exit, iterQ_ret, retQ_normal, retQ_ret, retQ_exit, pickC_true, pickC_false, pickO_true, pickO_false, gstep_tt, gstep_ff, gstep_tf, gstep_ft, gstep_skip, int_bne, int_beq, decide_not, Nat.reduceAdd, Nat.reduceMul, Nat.reduceSub, Nat.reducePow, Nat.reduceLT, Nat.reduceLeDiff, Nat.reduceEqDiff, Int.reduceToNat, Int.reduceAdd, Int.reduceSub, Int.reduceNeg, Int.reduceMul, Int.reduceLT, Int.reduceLE, Int.reduceEq, le_max, ↓wo_build, ↓wo_buildSlice, evParts, ↓reduceIte, planIds, hasExt, cntFs, idxFs, clnFs, ovlFs, List.contains_cons, List.contains_nil, List.any_cons, List.any_nil, Nat.reduceBEq, setC, List.length_set, decide_eq_true_eq, decide_eq_false_iff_not, true_implies, false_implies, forall_const, reduceCtorEq, eq_self, Int.natCast_nonneg, Int.toNat_natCast, Int.ofNat_lt, D.int.injEq, Option.some.injEq, Nat.zero_add, Nat.add_zero, bne_iff_ne, bne_eq_false_iff_eq, beq_iff_eq, beq_eq_false_iff_ne, gt_iff_lt, ne_eq, not_true_eq_false, not_false_eq_true, planIds, hasExt, cntFs, idxFs, clnFs, ovlFs, List.contains_cons, List.contains_nil, List.any_cons, List.any_nil, Nat.reduceBEq, Nat.reduceMul, Nat.reduceAdd, ↓reduceIte, hal, h0, h1, h2, cr, cw, cp, ci, ce, hbx, hbx1, c1, c2, c3, c4, c5, hb2, hkn, get_end, set_end, dUn, dEq, Tryz.f9]
  obtain ⟨_, T, ho, rfl⟩ := this
  exact ⟨T, ho⟩
end Go.Proofs.YtlamgjbngblefaaGreatDoor.Dm
