/-
  The machine's calls: what a callee hands back, frozen or not, is what the model's callee hands back.
-/
import Derived.Test.YtlamgjbngblefaaDoorDmP
namespace Go.Proofs.YtlamgjbngblefaaDoor.Dm
open Go Go.RowKit

section
variable {W : World} {C : Cx} {S : List Ob}
theorem pureL_get {cs : List D} (h : pureL cs = true) : ∀ (j : Nat) (c : D), cs[j]? = some c → c.pure = true := by
  induction cs with
  | nil => intro j c hc; simp at hc
  | cons d cs ih =>
    simp only [pureL, Bool.and_eq_true] at h
    intro j c hc
    cases j with
    | zero => have : d = c := by simpa using hc
              subst this; exact h.1
    | succ j => exact ih h.2 j c (by simpa using hc)
theorem pureLL_get {es : List (List D)} (h : pureLL es = true) : ∀ (i : Nat) (e : List D), es[i]? = some e → pureL e = true := by
  induction es with
  | nil => intro j c hc; simp at hc
  | cons d cs ih =>
    simp only [pureLL, Bool.and_eq_true] at h
    intro j c hc
    cases j with
    | zero => have : d = c := by simpa using hc
              subst this; exact h.1
    | succ j => exact ih h.2 j c (by simpa using hc)
/-- Data without the store's ids are the same whatever lies in the store. -/
theorem VR.toPure {C' : Cx} (hI : ∀ g, C.I g → C'.I g) {d : D} {v : Value} (h : VR W C d v) (hp : d.pure = true) : VR W C' d v := by
  induction h with
  | undef v => exact .undef v
  | bool b => exact .bool b
  | int k n => exact .int k n
  | str s => exact .str s
  | nilp => exact .nilp
  | ref vs hg hc hv ih => exact .ref vs (hI _ hg) hc (fun j c hj => ih j c hj (pureL_get (by simpa [D.pure] using hp) j c hj))
  | loc hr => simp [D.pure] at hp
  | nils => exact .nils
  | sl vs hp' hg hcap hx hs hc ho hv ih => exact .sl vs hp' (hI _ hg) hcap hx hs hc ho (fun i j e c he hj => ih i j e c he hj (pureL_get (pureLL_get (by simpa [D.pure] using hp) i e he) j c hj))
  | sl0 hx => exact .sl0 hx
  | os => simp [D.pure] at hp
  | osc => simp [D.pure] at hp
  | nilm => exact .nilm
  | map hr => simp [D.pure] at hp
  | it0 hg hh => exact .it0 (hI _ hg) hh
  | itE => simp [D.pure] at hp
  | nilf => exact .nilf
  | func hx hy _ _ ih1 ih2 =>
    simp only [D.pure, Bool.and_eq_true] at hp
    exact .func hx hy (fun j d v hd hv => ih1 j d v hd hv (pureL_get hp.1 j d hd)) (fun j d v hd hv => ih2 j d v hd hv (pureL_get hp.2 j d hd))
  | nili => exact .nili
  | iface _ ih => exact .iface (ih (by simpa [D.pure] using hp))
  | agg hl _ ih => exact .agg hl (fun j d v hd hv => ih j d v hd hv (pureL_get (by simpa [D.pure] using hp) j d hd))
  | tup hl _ ih => exact .tup hl (fun j d v hd hv => ih j d v hd hv (pureL_get (by simpa [D.pure] using hp) j d hd))
/-- Data whose ids were known before stand for what they stand for by those ids alone. -/
theorem VR.toOld {W0 : World} {C0 : Cx} (hR : ∀ k x, C0.R k = some x → C.R k = some x) {d : D} {v : Value} (h : VR W C d v) : ∀ {v0 : Value}, VR W0 C0 d v0 → VR W ⟨C.P, C0.R, C.I⟩ d v := by
  induction h with
  | undef v => intro v0 _; exact .undef v
  | bool b => intro v0 _; exact .bool b
  | int k n => intro v0 _; exact .int k n
  | str s => intro v0 _; exact .str s
  | nilp => intro v0 _; exact .nilp
  | ref vs hg hc hv ih =>
    intro v0 h0
    cases h0 with
    | ref vs0 _ _ hv0 => exact .ref vs hg hc (fun j c hj => ih j c hj (hv0 j c hj))
  | loc hr =>
    intro v0 h0
    cases h0 with
    | loc hr0 =>
      have e := hR _ _ hr0
      rw [hr] at e
      cases e
      exact .loc hr0
  | nils => intro v0 _; exact .nils
  | sl vs hp hg hcap hx hs hc ho hv ih =>
    intro v0 h0
    cases h0 with
    | sl vs0 _ _ _ _ _ _ _ hv0 => exact .sl vs hp hg hcap hx hs hc ho (fun i j e c he hj => ih i j e c he hj (hv0 i j e c he hj))
    | sl0 _ => simp at hp
  | sl0 hx => intro v0 _; exact .sl0 hx
  | os hr hl hx hx' hx'' =>
    intro v0 h0
    cases h0 with
    | os hr0 _ _ _ _ =>
      have e := hR _ _ hr0
      rw [hr] at e
      cases e
      exact .os hr0 hl hx hx' hx''
  | osc hr hl hc =>
    intro v0 h0
    cases h0 with
    | osc hr0 _ _ =>
      have e := hR _ _ hr0
      rw [hr] at e
      cases e
      exact .osc hr0 hl hc
  | nilm => intro v0 _; exact .nilm
  | map hr =>
    intro v0 h0
    cases h0 with
    | map hr0 =>
      have e := hR _ _ hr0
      rw [hr] at e
      cases e
      exact .map hr0
  | it0 hg hh => intro v0 _; exact .it0 hg hh
  | itE hr hg hh hl =>
    intro v0 h0
    cases h0 with
    | itE hr0 _ _ _ =>
      have e := hR _ _ hr0
      rw [hr] at e
      cases e
      exact .itE hr0 hg hh hl
  | nilf => intro v0 _; exact .nilf
  | func hx hy _ _ ih1 ih2 =>
    intro v0 h0
    cases h0 with
    | func hx0 hy0 h1 h2 =>
      refine .func hx hy (fun j d v hd hv => ?_) (fun j d v hd hv => ?_)
      · have hj := (List.getElem?_eq_some_iff.1 hd).1
        exact ih1 j d v hd hv (h1 j d _ hd (Array.getElem?_eq_getElem (by omega)))
      · have hj := (List.getElem?_eq_some_iff.1 hd).1
        exact ih2 j d v hd hv (h2 j d _ hd (Array.getElem?_eq_getElem (by omega)))
  | nili => intro v0 _; exact .nili
  | iface _ ih =>
    intro v0 h0
    cases h0 with
    | iface h0 => exact .iface (ih h0)
  | agg hl _ ih =>
    intro v0 h0
    cases h0 with
    | agg hl0 h1 =>
      refine .agg hl (fun j d v hd hv => ?_)
      have hj := (List.getElem?_eq_some_iff.1 hd).1
      exact ih j d v hd hv (h1 j d _ hd (Array.getElem?_eq_getElem (by omega)))
  | tup hl _ ih =>
    intro v0 h0
    cases h0 with
    | tup hl0 h1 =>
      refine .tup hl (fun j d v hd hv => ?_)
      have hj := (List.getElem?_eq_some_iff.1 hd).1
      exact ih j d v hd hv (h1 j d _ hd (Array.getElem?_eq_getElem (by omega)))
/-! ### Freezing -/
theorem mapO_spec {α β : Type} {f : α → Option β} : ∀ {l : List α} {m : List β}, mapO f l = some m → m.length = l.length ∧ ∀ (j : Nat) (b : β), m[j]? = some b → ∃ a : α, l[j]? = some a ∧ f a = some b
  | [], m, h => by simp [mapO] at h; subst h; exact ⟨rfl, fun j b hb => by simp at hb⟩
  | a :: l, m, h => by
    unfold mapO at h
    split at h
    · rename_i b m' h1 h2
      cases h
      obtain ⟨e, hm⟩ := mapO_spec h2
      refine ⟨by simp [e], fun j c hc => ?_⟩
      cases j with
      | zero => have : b = c := by simpa using hc
                subst this; exact ⟨a, rfl, h1⟩
      | succ j => obtain ⟨a', ha, hf⟩ := hm j c (by simpa using hc); exact ⟨a', by simpa using ha, hf⟩
    · cases h
theorem freeze_one : ∀ {n : Nat} {d d' : D}, freeze S n d = some d' → d.one = true → d'.one = true
  | 0, d, d', h, _ => by simp [freeze] at h
  | n + 1, d, d', h, h1 => by
    unfold freeze at h
    split at h
    · cases h; exact h1
    · split at h
      · obtain ⟨_, _, rfl⟩ := Option.map_eq_some_iff.1 h; rfl
      · split at h
        · split at h
          · obtain ⟨_, _, rfl⟩ := Option.map_eq_some_iff.1 h; rfl
          · cases h
        · cases h
      · obtain ⟨_, _, rfl⟩ := Option.map_eq_some_iff.1 h; rfl
      · split at h
        · split at h
          · obtain ⟨_, _, rfl⟩ := Option.map_eq_some_iff.1 h; rfl
          · cases h
        · cases h
      · split at h
        · cases h; rfl
        · cases h
      · obtain ⟨_, _, rfl⟩ := Option.map_eq_some_iff.1 h; rfl
      · simp [D.one] at h1
      · simp [D.one] at h1
      · cases h
/-- The world of a callee that has returned: nobody writes its blocks any more. -/
def Cx.froze (C : Cx) (S : List Ob) (R : Nat → Option (Nat × Nat × Nat × TypeId)) : Cx := ⟨C.P, R, fun b => C.I b ∨ Live C S b⟩
theorem freeze_vr (hs : SR W C S) (R : Nat → Option (Nat × Nat × Nat × TypeId)) : ∀ {n : Nat} {d d' : D} {v : Value}, freeze S n d = some d' → VR W C d v → VR W (C.froze S R) d' v
  | 0, d, d', v, h, _ => by simp [freeze] at h
  | n + 1, d, d', v, h, hv => by
    unfold freeze at h
    split at h
    · rename_i hp
      cases h
      exact hv.toPure (fun g hg => Or.inl hg) hp
    · split at h
      · rename_i cs o _
        obtain ⟨cs', hm, rfl⟩ := Option.map_eq_some_iff.1 h
        obtain ⟨hl, hg⟩ := mapO_spec hm
        cases hv with
        | ref vs hI hc hvv =>
          exact .ref vs (.inl hI) (fun j hj => hc j (by omega)) (fun j c hj => by
            obtain ⟨a, ha, hf⟩ := hg j c hj
            exact freeze_vr hs R hf (hvv j a ha))
      · rename_i k i o _
        split at h
        · rename_i s es hk
          split at h
          · rename_i cs hi
            obtain ⟨cs', hm, rfl⟩ := Option.map_eq_some_iff.1 h
            obtain ⟨hl, hg⟩ := mapO_spec hm
            cases hv with
            | loc hr =>
              rename_i g sz tot T
              obtain ⟨⟨rfl, h2, h3, vs, h4, h5, h6⟩, hnI, hlt⟩ := hs.at hk (by simp) hr
              have hil := (List.getElem?_eq_some_iff.1 hi).1
              refine .ref (fun j => vs[i * s + j]?.getD undef) (.inr ⟨k, _, s, tot, T, hk, by simp, hr⟩) (fun j hj => ?_) (fun j c hj => ?_)
              · have : i * s + j < vs.size := by
                  rw [h5]
                  exact Nat.lt_of_lt_of_le (lt_rows hil (by rw [← h3 _ _ hi]; omega)) h2
                rw [cell_of_row W g _ vs T (0, 0) h4]
                simp [this]
              · obtain ⟨a, ha, hf⟩ := hg j c hj
                obtain ⟨u, hu, hr', -⟩ := h6 i j cs a hi ha
                rw [hu]
                exact freeze_vr hs R hf hr'
          · cases h
        · cases h
      · rename_i sz es x _
        obtain ⟨es', hm, rfl⟩ := Option.map_eq_some_iff.1 h
        obtain ⟨hl, hg⟩ := mapO_spec hm
        cases hv with
        | sl vs hpos hI hcap hx hss hc ho hvv =>
          rename_i g b cap
          have hgg : ∀ (i : Nat) (e' : List D), es'[i]? = some e' → ∃ e, es[i]? = some e ∧ e'.length = e.length ∧ ∀ (j : Nat) (c' : D), e'[j]? = some c' → ∃ c, e[j]? = some c ∧ freeze S n c = some c' := by
            intro i e' he'
            obtain ⟨e, he, hf⟩ := hg i e' he'
            obtain ⟨hl', hg'⟩ := mapO_spec hf
            exact ⟨e, he, hl', hg'⟩
          have := VR.sl (W := W) (C := C.froze S R) (sz := sz) (es := es') (x := x) (g := g) (b := b) (cap := cap) vs (by omega) (.inl hI) (by omega) (fun hxx => by rw [hl]; exact hx hxx)
            (fun i e' he' => by obtain ⟨e, he, hl', -⟩ := hgg i e' he'; rw [hl']; exact hss i e he) (fun i j hi hj => hc i j (by omega) hj)
            (fun i j e' c' he' hc' => by
              obtain ⟨e, he, -, hj⟩ := hgg i e' he'
              obtain ⟨c, hcc, hf⟩ := hj j c' hc'
              exact freeze_one hf (ho i j e c he hcc))
            (fun i j e' c' he' hc' => by
              obtain ⟨e, he, -, hj⟩ := hgg i e' he'
              obtain ⟨c, hcc, hf⟩ := hj j c' hc'
              exact freeze_vr hs R hf (hvv i j e c he hcc))
          rw [hl] at this
          exact this
        | sl0 hx =>
          have : es' = [] := List.eq_nil_of_length_eq_zero (by simpa using hl)
          subst this
          exact .sl0 hx
      · rename_i k i len x _
        split at h
        · rename_i s es hk
          split at h
          · rename_i hle
            obtain ⟨es', hm, rfl⟩ := Option.map_eq_some_iff.1 h
            obtain ⟨hl, hg⟩ := mapO_spec hm
            obtain ⟨g, sz', tot, cap, T, rfl, hr, hlc, hx, -, -⟩ := hv.of_os
            obtain ⟨⟨rfl, h2, h3, vs, h4, h5, h6⟩, hnI, hlt⟩ := hs.at hk (by simp) hr
            have hlen : ((es.drop i).take len).length = len := by simp; omega
            have hgg : ∀ (p : Nat) (e' : List D), es'[p]? = some e' → p < len ∧ ∃ e, es[i + p]? = some e ∧ e'.length = e.length ∧ ∀ (j : Nat) (c' : D), e'[j]? = some c' → ∃ c, e[j]? = some c ∧ freeze S n c = some c' := by
              intro p e' he'
              obtain ⟨e, he, hf⟩ := hg p e' he'
              obtain ⟨hl', hg'⟩ := mapO_spec hf
              rw [List.getElem?_take] at he
              split at he
              · exact ⟨by assumption, e, by simpa using he, hl', hg'⟩
              · cases he
            by_cases h0 : len = 0
            · have : es' = [] := List.eq_nil_of_length_eq_zero (by rw [hl, hlen, h0])
              subst this
              rw [h0]
              exact .sl0 (fun hxx => by rw [hx hxx, h0])
            · have := VR.sl (W := W) (C := C.froze S R) (sz := s) (es := es') (x := x) (g := g) (b := i * s) (cap := cap) (fun p j => vs[(i + p) * s + j]?.getD undef) (by omega) (.inr ⟨k, _, s, tot, T, hk, by simp, hr⟩) (by omega) (fun hxx => by rw [hl, hlen]; exact hx hxx)
                (fun p e' he' => by obtain ⟨_, e, he, hl', -⟩ := hgg p e' he'; rw [hl']; exact h3 _ _ he)
                (fun p j hp hj => by
                  rw [hl, hlen] at hp
                  have hb : (i + p) * s + j < vs.size := by rw [h5]; exact Nat.lt_of_lt_of_le (lt_rows (n := es.length) (by omega) hj) h2
                  rw [show i * s + (p * s + j) = (i + p) * s + j by rw [Nat.add_mul]; omega, cell_of_row W g _ vs T (0, 0) h4]
                  simp [hb])
                (fun p j e' c' he' hc' => by
                  obtain ⟨_, e, he, -, hj⟩ := hgg p e' he'
                  obtain ⟨c, hcc, hf⟩ := hj j c' hc'
                  obtain ⟨u, -, -, ho⟩ := h6 _ j e c he hcc
                  exact freeze_one hf ho)
                (fun p j e' c' he' hc' => by
                  obtain ⟨_, e, he, -, hj⟩ := hgg p e' he'
                  obtain ⟨c, hcc, hf⟩ := hj j c' hc'
                  obtain ⟨u, hu, hr', -⟩ := h6 _ j e c he hcc
                  rw [hu]
                  exact freeze_vr hs R hf hr')
              rw [hl, hlen] at this
              exact this
          · cases h
        · cases h
      · rename_i f x y _
        split at h
        · rename_i x' y' h1 h2
          cases h
          obtain ⟨l1, g1⟩ := mapO_spec h1
          obtain ⟨l2, g2⟩ := mapO_spec h2
          cases hv with
          | func hx hy hvx hvy =>
            exact .func (by omega) (by omega) (fun j d u hd hu => by obtain ⟨a, ha, hf⟩ := g1 j d hd; exact freeze_vr hs R hf (hvx j a u ha hu)) (fun j d u hd hu => by obtain ⟨a, ha, hf⟩ := g2 j d hd; exact freeze_vr hs R hf (hvy j a u ha hu))
        · cases h
      · rename_i t d _
        obtain ⟨d', hd, rfl⟩ := Option.map_eq_some_iff.1 h
        cases hv with
        | iface hv => exact .iface (freeze_vr hs R hd hv)
      · rename_i cs _
        obtain ⟨cs', hm, rfl⟩ := Option.map_eq_some_iff.1 h
        obtain ⟨hl, hg⟩ := mapO_spec hm
        cases hv with
        | agg hl' hvv => exact .agg (by omega) (fun j d u hd hu => by obtain ⟨a, ha, hf⟩ := hg j d hd; exact freeze_vr hs R hf (hvv j a u ha hu))
      · rename_i cs _
        obtain ⟨cs', hm, rfl⟩ := Option.map_eq_some_iff.1 h
        obtain ⟨hl, hg⟩ := mapO_spec hm
        cases hv with
        | tup hl' hvv => exact .tup (by omega) (fun j d u hd hu => by obtain ⟨a, ha, hf⟩ := hg j d hd; exact freeze_vr hs R hf (hvv j a u ha hu))
      · cases h
end
end Go.Proofs.YtlamgjbngblefaaDoor.Dm
