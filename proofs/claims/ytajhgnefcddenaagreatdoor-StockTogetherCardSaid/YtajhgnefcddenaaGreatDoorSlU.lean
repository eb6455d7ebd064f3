/-
  Plain law: what is sold on a leg stays small for eighty calls.
-/
import Derived.Test.YtajhgnefcddenaaGreatDoorSlL
namespace Go.Proofs.YtajhgnefcddenaaGreatDoor.Dm
open Go Gw
set_option linter.unusedSimpArgs false

theorem sum_le_mul {M : Int} : ∀ {l : List Int}, (∀ v ∈ l, v ≤ M) → l.sum ≤ M * l.length
  | [], _ => by simp
  | v :: l, h => by
    have h1 := h v (by simp)
    have h2 := sum_le_mul (l := l) (fun w hw => h w (by simp [hw]))
    rw [List.sum_cons, List.length_cons, Int.natCast_add, Int.natCast_one, Int.mul_add, Int.mul_one]
    omega
theorem lim_tot {l : List Cfg} {B : Int} {x : Leg} (ok : LegOk l B x) (h : InLim x) : tot x ≤ 7992 := by
  have h4 := ok.cfg.l2
  have hl := ok.len
  have hs : ∀ v ∈ x.sold.map List.sum, v ≤ 1998 := fun v hv => by
    obtain ⟨r, hr, rfl⟩ := List.mem_map.1 hv
    obtain ⟨i, hi⟩ := List.mem_iff_getElem?.1 hr
    have hil := lt_of_get hi
    have hy : x.cfg.cabs[i]? = some (x.cfg.cabs[i]'(by omega)) := List.getElem?_eq_getElem (by omega)
    have hyo := ok.cfg.cab _ (List.mem_of_getElem? hy)
    cases r with
    | nil => simp
    | cons v r =>
      have h0 := h i _ _ hy hi 0 (by simp)
      unfold spF at h0
      rw [List.drop_zero] at h0
      have h1 := limF_le hyo 0
      have h2 := aut_le hyo
      omega
  have := sum_le_mul hs
  unfold tot
  rw [List.length_map] at this
  have hn : (x.sold.length : Int) ≤ 4 := by omega
  omega
/-- What is sold on a leg after c calls. -/
def Fit (c : Nat) (x : Leg) : Prop := (InLim x ∧ tot x ≤ 127 * ((c : Int) - 1)) ∨ tot x ≤ 127 * ((c : Int) - 2)
theorem Fit.mono {c : Nat} {x : Leg} (h : Fit c x) : Fit (c + 1) x := by
  rcases h with ⟨h1, h2⟩ | h
  · exact .inl ⟨h1, by rw [Int.natCast_add]; omega⟩
  · exact .inr (by rw [Int.natCast_add]; omega)
structure Ok80 (c : Nat) (s : Stk) : Prop where
  ok : StkOk 9999 s
  fit : ∀ id x, s.get id = some x → Fit c x
theorem fit_add {c : Nat} {s : Stk} (h : Ok80 c s) {ids : List Lid} (hnd : ids.Nodup) {cl : ByteArray} {w : Int} (hw : w ≤ 127) (hall : ∀ id ∈ ids, ∃ x q, s.get id = some x ∧ placeF cl 0 x.cfg.cabs = some q) (hl : w ≤ 0 ∨ ∀ id ∈ ids, ∀ x, s.get id = some x → w ≤ leftF x cl) :
    ∀ id x, Stk.get { s with legs := addIds cl w ids s.legs } id = some x → Fit (c + 1) x := by
  intro id x hx
  have hx : getL (addIds cl w ids s.legs) id = some x := hx
  rw [getL_addIds cl w id ids s.legs hnd] at hx
  by_cases e : id ∈ ids
  · rw [if_pos e] at hx
    obtain ⟨x0, h0, rfl⟩ := Option.map_eq_some_iff.1 hx
    obtain ⟨x1, q, h1, hq⟩ := hall id e
    have : s.get id = some x0 := h0
    rw [this] at h1
    cases h1
    have ht := addL_tot (w := w) (h.ok.get h0) hq
    rcases h.fit id x0 h0 with ⟨g1, g2⟩ | g
    · refine .inl ⟨addL_lim (h.ok.get h0) g1 (hl.imp (fun k => k) fun k => k id e x0 h0), ?_⟩
      rw [ht, Int.natCast_add]; omega
    · refine .inr ?_
      rw [ht, Int.natCast_add]; omega
  · rw [if_neg e] at hx
    exact (h.fit id x hx).mono
theorem fit_step {c : Nat} {s : Stk} (h : Ok80 c s) {a : Cal} (ha : a.Ok) : ∀ id x, (doF s a).2.get id = some x → Fit (c + 1) x := by
  have same : ∀ id x, s.get id = some x → Fit (c + 1) x := fun id x hx => (h.fit id x hx).mono
  unfold doF
  split
  · unfold Stk.open
    split
    · exact same
    · split
      · exact same
      · rename_i b hb
        intro id x hx
        have hx : getL (s.legs ++ [(idF a.leg, (⟨b, false, emptyF b⟩ : Leg))]) id = some x := hx
        rw [getL_app] at hx
        rcases e : getL s.legs id with _ | x0
        · rw [e] at hx
          by_cases ee : idF a.leg = id
          · rw [if_pos ee] at hx
            cases hx
            exact .inl ⟨emptyF_lim h.ok.cfgs (findF_mem hb).1, by rw [emptyF_tot, Int.natCast_add]; omega⟩
          · rw [if_neg ee] at hx; cases hx
        · rw [e] at hx
          cases hx
          exact same id _ e
  · unfold Stk.close
    split
    · exact same
    · split
      · exact same
      · intro id x hx
        have hx : getL (updL s.legs (idF a.leg) fun x => { x with closed := true }) id = some x := hx
        rw [getL_upd] at hx
        split at hx
        · obtain ⟨y0, h0, rfl⟩ := Option.map_eq_some_iff.1 hx
          exact same id y0 h0
        · exact same id x hx
  · by_cases e : (s.cancel (idsF a) (clsN a.cl) a.n).1 = 0
    · obtain ⟨e1, e2⟩ := cancel_inv e
      obtain ⟨n1, -, n3, n4⟩ := named_inv e2
      rw [e1]
      exact fit_add h n3 (by omega) n4 (.inl (by omega))
    · rw [cancel_err e]
      exact same
  · intro id x hx
    unfold Stk.resize at hx
    split at hx
    · rename_i y b hy hb
      have hx : getL (updL s.legs (idF a.leg) (resizeF · b)) id = some x := hx
      rw [getL_upd] at hx
      split at hx
      · obtain ⟨y0, h0, rfl⟩ := Option.map_eq_some_iff.1 hx
        have hm := findF_mem hb
        have ht := (resizeF_ok (h.ok.get h0) (by omega) (Int.le_refl _) (h.ok.cfgs.cfg b hm.1) (findF_self hb)).2
        refine .inr ?_
        rw [ht, Int.natCast_add]
        rcases h.fit id y0 h0 with ⟨-, g⟩ | g <;> omega
      · exact same id x hx
    · exact same id x hx
  · by_cases e : (s.sell (idsF a) (clsN a.cl) a.n).1 = 0
    · obtain ⟨e1, e2, e3⟩ := sell_inv e
      obtain ⟨n1, -, n3, n4⟩ := named_inv e2
      rw [e1]
      exact fit_add h n3 ha.n2 n4 (.inr e3)
    · rw [sell_err e]
      exact same
theorem ok80_step {c : Nat} {s : Stk} (h : Ok80 c s) (hc : c ≤ 79) {a : Cal} (ha : a.Ok) : Ok80 (c + 1) (doF s a).2 := by
  have hf := fit_step h ha
  have hk := doF_ok h.ok (by omega) (Int.le_refl _) ha
  refine ⟨⟨hk.cfgs, hk.ids, fun p hp => ?_⟩, hf⟩
  have hg := get_of_mem hk.ids hp
  have hlo := hk.leg p hp
  refine { hlo with tot := ?_ }
  rcases hf p.1 p.2 hg with ⟨g, -⟩ | g
  · have := lim_tot hlo g
    omega
  · rw [Int.natCast_add] at g
    omega
theorem playF_ok80 : ∀ {acts : List Cal} {s : Stk} {c : Nat}, Ok80 c s → c + acts.length ≤ 80 → (∀ a ∈ acts, a.Ok) → Ok80 (c + acts.length) (playF s acts)
  | [], s, c, h, _, _ => h
  | a :: acts, s, c, h, hc, ha => by
    rw [List.length_cons] at hc ⊢
    have h1 := ok80_step h (by omega) (ha a (by simp))
    have := playF_ok80 (acts := acts) h1 (by omega) (fun b hb => ha b (by simp [hb]))
    rw [show c + (acts.length + 1) = c + 1 + acts.length by omega]
    exact this
theorem ok80_nil {l : List Cfg} {x : Bool} (h : CfgsOk l) : Ok80 0 ⟨l, x, []⟩ := ⟨⟨h, List.nodup_nil, fun p hp => by cases hp⟩, fun id y hy => by cases hy⟩
end Go.Proofs.YtajhgnefcddenaaGreatDoor.Dm
