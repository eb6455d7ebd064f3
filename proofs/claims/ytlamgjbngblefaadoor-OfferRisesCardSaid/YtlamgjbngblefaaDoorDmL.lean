/-
  The machine's steps that read, and how its store turns: each is what the model does.
-/
import Derived.Test.YtlamgjbngblefaaDoorDmR
namespace Go.Proofs.YtlamgjbngblefaaDoor.Dm
open Go Go.RowKit
set_option linter.unusedVariables false

/-! ### How the store turns -/
theorem ObR.mono {W W' : World} {C C' : Cx} {g sz tot : Nat} {T : TypeId} {ob : Ob} (h : ObR W C g sz tot T ob) (hP : C'.P = C.P) (hb : W'.heap[g]? = W.heap[g]?) (hm : ∀ d v, VR W C d v → VR W' C' d v) : ObR W' C' g sz tot T ob := by
  cases ob with
  | dead => trivial
  | row s es =>
    obtain ⟨h1, h2, h3, vs, h4, h5, h6⟩ := h
    refine ⟨h1, h2, h3, vs, hb.trans h4, h5, fun i j e c he hc => ?_⟩
    obtain ⟨v, hv, hr, ho⟩ := h6 i j e c he hc
    exact ⟨v, hv, hm _ _ hr, ho⟩
  | map kt l =>
    obtain ⟨es, clock, m, h1, hm1, hm2, h2, h4, h5, h3⟩ := h
    exact ⟨es, clock, m, hb.trans h1, hm1, hm2, h2, by rw [hP]; exact h4, h5, fun i p e hp he => ⟨hm _ _ (h3 i p e hp he).1, hm _ _ (h3 i p e hp he).2⟩⟩
theorem getElem?_set' {α : Type} {l : List α} {k i : Nat} {a b : α} (h : (l.set k a)[i]? = some b) : (i = k ∧ b = a ∧ k < l.length) ∨ (i ≠ k ∧ l[i]? = some b) := by
  rw [List.getElem?_set] at h
  split at h
  · rename_i e
    split at h
    · cases h; exact .inl ⟨e.symm, rfl, by assumption⟩
    · cases h
  · rename_i e; exact .inr ⟨fun e' => e e'.symm, h⟩
theorem getElem?_push {α : Type} {l : List α} {i : Nat} {a b : α} (h : (l ++ [a])[i]? = some b) : (i = l.length ∧ b = a) ∨ (i < l.length ∧ l[i]? = some b) := by
  rcases Nat.lt_or_ge i l.length with hi | hi
  · rw [List.getElem?_append_left hi] at h; exact .inr ⟨hi, h⟩
  · rw [List.getElem?_append_right hi] at h
    have : i - l.length = 0 := by
      rcases Nat.eq_zero_or_pos (i - l.length) with e | e
      · exact e
      · rw [List.getElem?_eq_none (by simp; omega)] at h; cases h
    rw [this] at h
    exact .inl ⟨by omega, by simpa using h.symm⟩
def Cx.add (C : Cx) (k : Nat) (x : Nat × Nat × Nat × TypeId) : Cx := ⟨C.P, fun j => if j = k then some x else C.R j, C.I⟩
def Cx.imm (C : Cx) (g : Nat) : Cx := ⟨C.P, C.R, fun b => C.I b ∨ b = g⟩
theorem Cx.add_same (C : Cx) (k : Nat) (x : Nat × Nat × Nat × TypeId) : (C.add k x).R k = some x := by simp [Cx.add]
theorem Cx.add_old {W : World} {C : Cx} {S : List Ob} (h : SR W C S) (x : Nat × Nat × Nat × TypeId) {k : Nat} {y : Nat × Nat × Nat × TypeId} (hk : C.R k = some y) : (C.add S.length x).R k = some y := by
  have := h.fresh k y hk
  simp [Cx.add, Nat.ne_of_lt this, hk]
theorem Cx.add_new {C : Cx} {n : Nat} {x y : Nat × Nat × Nat × TypeId} {k : Nat} (h : (C.add n x).R k = some y) : C.R k = some y ∨ n ≤ k := by
  by_cases e : k = n
  · exact .inr (Nat.le_of_eq e.symm)
  · exact .inl (by simpa [Cx.add, e] using h)
theorem SR.at {W : World} {C : Cx} {S : List Ob} (h : SR W C S) {k : Nat} {ob : Ob} (hk : S[k]? = some ob) (hd : ob ≠ .dead) {g sz tot : Nat} {T : TypeId} (hr : C.R k = some (g, sz, tot, T)) : ObR W C g sz tot T ob ∧ ¬ C.I g ∧ g < W.heap.size := by
  obtain ⟨g', sz', tot', T', h1, h2⟩ := h.ob k ob hk hd
  rw [hr] at h1
  cases h1
  exact h2
/-- One object turns in its own block. -/
theorem SR.put {W W' : World} {C : Cx} {S : List Ob} (h : SR W C S) {k : Nat} {ob ob' : Ob} {g sz tot : Nat} {T : TypeId} (hk : S[k]? = some ob) (hd : ob ≠ .dead) (hr : C.R k = some (g, sz, tot, T))
    (hos : W'.os = W.os) (htp : W'.tape = W.tape) (hout : W'.output = W.output) (hsz : W'.heap.size = W.heap.size) (hkeep : ∀ b, b ≠ g → W'.heap[b]? = W.heap[b]?)
    (hob : (∀ d v, VR W C d v → VR W' C d v) → ObR W' C g sz tot T ob') : SR W' C (S.set k ob') ∧ Fr W C S W' C (S.set k ob') := by
  have hA := h.at hk hd hr
  have hm : ∀ d v, VR W C d v → VR W' C d v := fun d v hv => hv.mono (fun b hb => ⟨hb, hkeep b (fun e => hA.2.1 (e ▸ hb))⟩) (fun _ _ h => h)
  have hlive : ∀ b, Live C (S.set k ob') b → Live C S b := by
    rintro b ⟨i, o, s, t, T', h1, h2, h3⟩
    rcases getElem?_set' h1 with ⟨rfl, rfl, hl⟩ | ⟨hi, h1⟩
    · exact ⟨i, ob, s, t, T', hk, hd, h3⟩
    · exact ⟨i, o, s, t, T', h1, h2, h3⟩
  refine ⟨⟨fun i o hi ho => ?_, fun i x hx => by rw [List.length_set]; exact h.fresh i x hx, fun i i' o o' x x' hi ho hi' ho' hx hx' e => ?_, fun b hb => by rw [hsz]; exact h.imm b hb⟩, ⟨hos, htp, hout, Nat.le_of_eq hsz.symm, fun b _ hn => hkeep b (fun e => hn (e ▸ ⟨k, ob, sz, tot, T, hk, hd, hr⟩)), fun b hb => .inl (hlive b hb), fun _ _ h => h, fun _ h => h, rfl, fun _ h => .inl h, by rw [List.length_set]; exact Nat.le_refl _, fun _ _ h => .inl h⟩⟩
  · rcases getElem?_set' hi with ⟨rfl, rfl, hl⟩ | ⟨hne, hi⟩
    · exact ⟨g, sz, tot, T, hr, hob hm, hA.2.1, by rw [hsz]; exact hA.2.2⟩
    · obtain ⟨g', s', t', T', h1, h2, h3, h4⟩ := h.ob i o hi ho
      refine ⟨g', s', t', T', h1, h2.mono rfl (hkeep g' fun e => hne (h.inj i k o ob _ _ hi ho hk hd h1 hr e)) hm, h3, by rw [hsz]; exact h4⟩
  · rcases getElem?_set' hi with ⟨e1, -, hl⟩ | ⟨hne, hi2⟩ <;> rcases getElem?_set' hi' with ⟨e2, -, hl'⟩ | ⟨hne', hi2'⟩
    · rw [e1, e2]
    · rw [e1] at hx ⊢; exact h.inj k i' ob o' x x' hk hd hi2' ho' hx hx' e
    · rw [e2] at hx' ⊢; exact h.inj i k o ob x x' hi2 ho hk hd hx hx' e
    · exact h.inj i i' o o' x x' hi2 ho hi2' ho' hx hx' e
/-- A new object. -/
theorem SR.push {W W' : World} {C : Cx} {S : List Ob} (h : SR W C S) {ob' : Ob} {g sz tot : Nat} {T : TypeId}
    (hos : W'.os = W.os) (htp : W'.tape = W.tape) (hout : W'.output = W.output) (hsz : W.heap.size ≤ W'.heap.size) (hkeep : ∀ b, b < W.heap.size → W'.heap[b]? = W.heap[b]?) (hg : W.heap.size ≤ g) (hg' : g < W'.heap.size)
    (hob : (∀ d v, VR W C d v → VR W' (C.add S.length (g, sz, tot, T)) d v) → ObR W' (C.add S.length (g, sz, tot, T)) g sz tot T ob') :
    SR W' (C.add S.length (g, sz, tot, T)) (S ++ [ob']) ∧ Fr W C S W' (C.add S.length (g, sz, tot, T)) (S ++ [ob']) := by
  have hm : ∀ d v, VR W C d v → VR W' (C.add S.length (g, sz, tot, T)) d v := fun d v hv => VR.mono (C := C) (C' := C.add S.length (g, sz, tot, T)) (fun b hb => ⟨hb, hkeep b (h.imm b hb)⟩) (fun k x hx => Cx.add_old h _ hx) hv
  have hold : ∀ k, k < S.length → (C.add S.length (g, sz, tot, T)).R k = C.R k := fun k hk => by simp [Cx.add, Nat.ne_of_lt hk]
  have hlive : ∀ b, Live (C.add S.length (g, sz, tot, T)) (S ++ [ob']) b → Live C S b ∨ W.heap.size ≤ b := by
    rintro b ⟨i, o, s, t, T', h1, h2, h3⟩
    rcases getElem?_push h1 with ⟨rfl, rfl⟩ | ⟨hi, h1⟩
    · rw [Cx.add_same] at h3; cases h3; exact .inr hg
    · rw [hold i hi] at h3; exact .inl ⟨i, o, s, t, T', h1, h2, h3⟩
  have hlt : ∀ i o x, S[i]? = some o → o ≠ .dead → C.R i = some x → x.1 < W.heap.size := by
    intro i o x hi ho hx
    obtain ⟨g', s', t', T', h1, -, -, h4⟩ := h.ob i o hi ho
    rw [hx] at h1; cases h1; exact h4
  refine ⟨⟨fun i o hi ho => ?_, fun i x hx => ?_, fun i i' o o' x x' hi ho hi' ho' hx hx' e => ?_, fun b hb => Nat.lt_of_lt_of_le (h.imm b hb) hsz⟩, ⟨hos, htp, hout, hsz, fun b hb _ => hkeep b hb, hlive, fun k x hx => Cx.add_old h _ hx, fun _ h => h, rfl, fun _ h => .inl h, by simp, fun k x hx => Cx.add_new hx⟩⟩
  · rcases getElem?_push hi with ⟨rfl, rfl⟩ | ⟨hl, hi⟩
    · exact ⟨g, sz, tot, T, Cx.add_same _ _ _, hob hm, fun hb => by have := h.imm g hb; omega, hg'⟩
    · obtain ⟨g', s', t', T', h1, h2, h3, h4⟩ := h.ob i o hi ho
      exact ⟨g', s', t', T', by rw [hold i hl]; exact h1, h2.mono rfl (hkeep g' h4) hm, h3, Nat.lt_of_lt_of_le h4 hsz⟩
  · rw [List.length_append, List.length_singleton]
    by_cases e : i = S.length
    · omega
    · have : C.R i = some x := by simpa [Cx.add, e] using hx
      have := h.fresh i x this
      omega
  · rcases getElem?_push hi with ⟨e1, -⟩ | ⟨hl, hi2⟩ <;> rcases getElem?_push hi' with ⟨e2, -⟩ | ⟨hl', hi2'⟩
    · rw [e1, e2]
    · rw [e1, Cx.add_same] at hx; cases hx
      rw [hold i' hl'] at hx'
      have := hlt i' o' x' hi2' ho' hx'
      dsimp only at e; omega
    · rw [e2, Cx.add_same] at hx'; cases hx'
      rw [hold i hl] at hx
      have := hlt i o x hi2 ho hx
      dsimp only at e; omega
    · rw [hold i hl] at hx; rw [hold i' hl'] at hx'
      exact h.inj i i' o o' x x' hi2 ho hi2' ho' hx hx' e
/-- A new object at a place that was laid ahead. -/
theorem SR.pushAt {W W' : World} {C : Cx} {S : List Ob} (h : SR W C S) {s : Nat} (hs : S[s]? = some .dead) (hR : C.R s = none) {ob' : Ob} {g sz tot : Nat} {T : TypeId}
    (hos : W'.os = W.os) (htp : W'.tape = W.tape) (hout : W'.output = W.output) (hsz : W.heap.size ≤ W'.heap.size) (hkeep : ∀ b, b < W.heap.size → W'.heap[b]? = W.heap[b]?) (hg : W.heap.size ≤ g) (hg' : g < W'.heap.size)
    (hob : (∀ d v, VR W C d v → VR W' (C.add s (g, sz, tot, T)) d v) → ObR W' (C.add s (g, sz, tot, T)) g sz tot T ob') :
    SR W' (C.add s (g, sz, tot, T)) (S.set s ob') ∧ (∀ d v, VR W C d v → VR W' (C.add s (g, sz, tot, T)) d v) ∧ (∀ b, Live (C.add s (g, sz, tot, T)) (S.set s ob') b → Live C S b ∨ W.heap.size ≤ b) := by
  have hsl : s < S.length := (List.getElem?_eq_some_iff.1 hs).1
  have hold : ∀ k, k ≠ s → (C.add s (g, sz, tot, T)).R k = C.R k := fun k hk => by simp [Cx.add, hk]
  have hup : ∀ k x, C.R k = some x → (C.add s (g, sz, tot, T)).R k = some x := fun k x hx => by
    rw [hold k (fun e => by rw [e, hR] at hx; cases hx)]; exact hx
  have hm : ∀ d v, VR W C d v → VR W' (C.add s (g, sz, tot, T)) d v := fun d v hv => VR.mono (C := C) (C' := C.add s (g, sz, tot, T)) (fun b hb => ⟨hb, hkeep b (h.imm b hb)⟩) hup hv
  have hlive : ∀ b, Live (C.add s (g, sz, tot, T)) (S.set s ob') b → Live C S b ∨ W.heap.size ≤ b := by
    rintro b ⟨i, o, z, t, T', h1, h2, h3⟩
    rcases getElem?_set' h1 with ⟨rfl, rfl, -⟩ | ⟨hi, h1⟩
    · rw [Cx.add_same] at h3; cases h3; exact .inr hg
    · rw [hold i hi] at h3; exact .inl ⟨i, o, z, t, T', h1, h2, h3⟩
  have hlt : ∀ i o x, S[i]? = some o → o ≠ .dead → C.R i = some x → x.1 < W.heap.size := by
    intro i o x hi ho hx
    obtain ⟨g', s', t', T', h1, -, -, h4⟩ := h.ob i o hi ho
    rw [hx] at h1; cases h1; exact h4
  refine ⟨⟨fun i o hi ho => ?_, fun i x hx => ?_, fun i i' o o' x x' hi ho hi' ho' hx hx' e => ?_, fun b hb => Nat.lt_of_lt_of_le (h.imm b hb) hsz⟩, hm, hlive⟩
  · rcases getElem?_set' hi with ⟨rfl, rfl, -⟩ | ⟨hl, hi⟩
    · exact ⟨g, sz, tot, T, Cx.add_same _ _ _, hob hm, fun hb => by have := h.imm g hb; omega, hg'⟩
    · obtain ⟨g', s', t', T', h1, h2, h3, h4⟩ := h.ob i o hi ho
      exact ⟨g', s', t', T', by rw [hold i hl]; exact h1, h2.mono rfl (hkeep g' h4) hm, h3, Nat.lt_of_lt_of_le h4 hsz⟩
  · rw [List.length_set]
    by_cases e : i = s
    · rw [e]; exact hsl
    · exact h.fresh i x (by simpa [Cx.add, e] using hx)
  · rcases getElem?_set' hi with ⟨e1, -, -⟩ | ⟨hl, hi2⟩ <;> rcases getElem?_set' hi' with ⟨e2, -, -⟩ | ⟨hl', hi2'⟩
    · rw [e1, e2]
    · rw [e1, Cx.add_same] at hx; cases hx
      rw [hold i' hl'] at hx'
      have := hlt i' o' x' hi2' ho' hx'
      dsimp only at e; omega
    · rw [e2, Cx.add_same] at hx'; cases hx'
      rw [hold i hl] at hx
      have := hlt i o x hi2 ho hx
      dsimp only at e; omega
    · rw [hold i hl] at hx; rw [hold i' hl'] at hx'
      exact h.inj i i' o o' x x' hi2 ho hi2' ho' hx hx' e
/-- An object dies, and another takes its block. -/
theorem SR.move {W W' : World} {C : Cx} {S : List Ob} (h : SR W C S) {k : Nat} {ob ob' : Ob} {g sz tot : Nat} {T : TypeId} (hk : S[k]? = some ob) (hd : ob ≠ .dead) (hr : C.R k = some (g, sz, tot, T))
    (hos : W'.os = W.os) (htp : W'.tape = W.tape) (hout : W'.output = W.output) (hsz : W'.heap.size = W.heap.size) (hkeep : ∀ b, b ≠ g → W'.heap[b]? = W.heap[b]?)
    (hob : (∀ d v, VR W C d v → VR W' (C.add S.length (g, sz, tot, T)) d v) → ObR W' (C.add S.length (g, sz, tot, T)) g sz tot T ob') :
    SR W' (C.add S.length (g, sz, tot, T)) (S.set k .dead ++ [ob']) ∧ Fr W C S W' (C.add S.length (g, sz, tot, T)) (S.set k .dead ++ [ob']) := by
  have hA := h.at hk hd hr
  have hkl : k < S.length := (List.getElem?_eq_some_iff.1 hk).1
  have hm : ∀ d v, VR W C d v → VR W' (C.add S.length (g, sz, tot, T)) d v := fun d v hv => VR.mono (C := C) (C' := C.add S.length (g, sz, tot, T)) (fun b hb => ⟨hb, hkeep b (fun e => hA.2.1 (e ▸ hb))⟩) (fun k x hx => Cx.add_old h _ hx) hv
  have hold : ∀ k, k < S.length → (C.add S.length (g, sz, tot, T)).R k = C.R k := fun k hk => by simp [Cx.add, Nat.ne_of_lt hk]
  have look : ∀ {i o}, (S.set k .dead ++ [ob'])[i]? = some o → o ≠ .dead → (i = S.length ∧ o = ob') ∨ (i < S.length ∧ i ≠ k ∧ S[i]? = some o) := by
    intro i o hi ho
    rcases getElem?_push hi with ⟨e1, e2⟩ | ⟨hl, hi⟩
    · exact .inl ⟨by simpa using e1, e2⟩
    · rcases getElem?_set' hi with ⟨rfl, rfl, -⟩ | ⟨hne, hi⟩
      · exact absurd rfl ho
      · exact .inr ⟨by simpa using hl, hne, hi⟩
  have hlive : ∀ b, Live (C.add S.length (g, sz, tot, T)) (S.set k .dead ++ [ob']) b → Live C S b ∨ W.heap.size ≤ b := by
    rintro b ⟨i, o, s, t, T', h1, h2, h3⟩
    rcases look h1 h2 with ⟨rfl, rfl⟩ | ⟨hi, -, h1⟩
    · rw [Cx.add_same] at h3; cases h3; exact .inl ⟨k, ob, _, _, _, hk, hd, hr⟩
    · rw [hold i hi] at h3; exact .inl ⟨i, o, s, t, T', h1, h2, h3⟩
  refine ⟨⟨fun i o hi ho => ?_, fun i x hx => ?_, fun i i' o o' x x' hi ho hi' ho' hx hx' e => ?_, fun b hb => by rw [hsz]; exact h.imm b hb⟩, ⟨hos, htp, hout, Nat.le_of_eq hsz.symm, fun b _ hn => hkeep b (fun e => hn (e ▸ ⟨k, ob, sz, tot, T, hk, hd, hr⟩)), hlive, fun k x hx => Cx.add_old h _ hx, fun _ h => h, rfl, fun _ h => .inl h, by simp, fun k x hx => Cx.add_new hx⟩⟩
  · rcases look hi ho with ⟨rfl, rfl⟩ | ⟨hl, hne, hi⟩
    · exact ⟨g, sz, tot, T, Cx.add_same _ _ _, hob hm, hA.2.1, by rw [hsz]; exact hA.2.2⟩
    · obtain ⟨g', s', t', T', h1, h2, h3, h4⟩ := h.ob i o hi ho
      exact ⟨g', s', t', T', by rw [hold i hl]; exact h1, h2.mono rfl (hkeep g' fun e => hne (h.inj i k o ob _ _ hi ho hk hd h1 hr e)) hm, h3, by rw [hsz]; exact h4⟩
  · rw [List.length_append, List.length_singleton, List.length_set]
    by_cases e : i = S.length
    · omega
    · have : C.R i = some x := by simpa [Cx.add, e] using hx
      have := h.fresh i x this
      omega
  · rcases look hi ho with ⟨e1, -⟩ | ⟨hl, hne, hi2⟩ <;> rcases look hi' ho' with ⟨e2, -⟩ | ⟨hl', hne', hi2'⟩
    · rw [e1, e2]
    · rw [e1, Cx.add_same] at hx; cases hx
      rw [hold i' hl'] at hx'
      exact absurd (h.inj i' k o' ob x' _ hi2' ho' hk hd hx' hr e.symm) hne'
    · rw [e2, Cx.add_same] at hx'; cases hx'
      rw [hold i hl] at hx
      exact absurd (h.inj i k o ob x _ hi2 ho hk hd hx hr e) hne
    · rw [hold i hl] at hx; rw [hold i' hl'] at hx'
      exact h.inj i i' o o' x x' hi2 ho hi2' ho' hx hx' e
/-- A new block that nobody writes. -/
theorem SR.immNew {W : World} {C : Cx} {S : List Ob} (h : SR W C S) (o : Obj) : SR (W.alloc o) (C.imm W.heap.size) S ∧ Fr W C S (W.alloc o) (C.imm W.heap.size) S := by
  have hkeep : ∀ b, b < W.heap.size → (W.alloc o).heap[b]? = W.heap[b]? := fun b hb => Below.heap_alloc W o b hb
  have hm : ∀ d v, VR W C d v → VR (W.alloc o) (C.imm W.heap.size) d v := fun d v hv => VR.mono (C := C) (C' := C.imm W.heap.size) (fun b hb => ⟨Or.inl hb, hkeep b (h.imm b hb)⟩) (fun _ _ h => h) hv
  refine ⟨⟨fun i ob hi ho => ?_, h.fresh, h.inj, fun b hb => ?_⟩, ⟨rfl, rfl, rfl, by simp, fun b hb _ => hkeep b hb, fun b hb => .inl hb, fun _ _ h => h, fun _ h => Or.inl h, rfl, fun g h => h.elim .inl (fun e => .inr (Nat.le_of_eq e.symm)), Nat.le_refl _, fun _ _ h => .inl h⟩⟩
  · obtain ⟨g', s', t', T', h1, h2, h3, h4⟩ := h.ob i ob hi ho
    refine ⟨g', s', t', T', h1, h2.mono rfl (hkeep g' h4) hm, fun hb => hb.elim h3 (fun e => by omega), by simp; omega⟩
  · rcases hb with hb | rfl
    · have := h.imm b hb; simp; omega
    · simp

/-! ### Types -/
section
variable {P : Program} {W : World} {C : Cx} {S : List Ob}
theorem info_of_size {t : TypeId} {n : Nat} (h : sizeT P t = some n) : ∃ i, P.info? t = some i ∧ i.size = n := by
  obtain ⟨i, hi, e⟩ := Option.map_eq_some_iff.1 h
  exact ⟨i, hi, e⟩
theorem run_size {t : TypeId} {n : Nat} (h : sizeT P t = some n) (w : World) : (sizeOf t).run P w = .ok n w := by
  obtain ⟨i, hi, rfl⟩ := info_of_size h
  simp [sizeOf, typeInfo, hi]
theorem run_isAgg' {t : TypeId} {g : Bool} (h : aggT P t = some g) (w : World) : (isAgg t).run P w = .ok g w := by
  unfold aggT at h
  obtain ⟨d, hd, e⟩ := Option.map_eq_some_iff.1 h
  subst e
  simp only [isAgg, Sem.run_bind, run_underlying hd, Result.andThen_ok]
  cases d <;> rfl
theorem run_zero {t : TypeId} {d : D} (h : zeroT P t = some d) : ∃ v, (∀ w, (zeroValue t).run P w = .ok v w) ∧ (∃ i, P.info? t = some i ∧ i.zero = some v) ∧ fromVal v = some d := by
  unfold zeroT at h
  cases hi : P.info? t with
  | none => rw [hi] at h; cases h
  | some i =>
    rw [hi] at h
    cases hz : i.zero with
    | none => simp [hz] at h
    | some v =>
      refine ⟨v, fun w => ?_, ⟨i, rfl, hz⟩, by simpa [hz] using h⟩
      simp [zeroValue, typeInfo, hi, hz]
theorem run_part' {t : TypeId} {cs : List D} {vs : Array Value} {o : Nat} {d : D} (h : dPart P t cs o = some d) (hv : VRs W C cs vs.toList) (w : World) : ∃ v, (part t vs o).run P w = .ok v w ∧ VR W C d v := by
  unfold dPart at h
  split at h
  · rename_i n g h1 h2
    cases g with
    | true =>
      simp only [takeC] at h
      split at h
      · cases h
        refine ⟨.agg (vs.extract o (o + n)), ?_, ?_⟩
        · simp only [part, Sem.run_bind, run_isAgg' h2, Result.andThen_ok, if_true, run_size h1, Sem.run_pure]
        · have := (hv.drop o).take n
          have e := VR.agg_of this
          have : vs.extract o (o + n) = ((vs.toList.drop o).take n).toArray := by
            apply Array.ext'
            simp [Array.toList_extract, List.extract_eq_take_drop]
          rw [this]; exact e
      · cases h
    | false =>
      simp only [takeC] at h
      obtain ⟨v, hv', hr⟩ := hv.get h
      rw [Array.getElem?_toList] at hv'
      refine ⟨v, ?_, hr⟩
      simp only [part, Sem.run_bind, run_isAgg' h2, Result.andThen_ok, Bool.false_eq_true, if_false, hv', Sem.run_pure]
  · cases h
theorem run_loadVar' {t : TypeId} {cs : List D} {o : Nat} {d : D} (h : dPart P t cs o = some d) {g b : Nat} (hc : ∀ j c, cs[j]? = some c → ∃ u, W.cell? ⟨g, b + j, none⟩ = some u ∧ VR W C c u) : ∃ v, (loadVar t ⟨g, b + o, none⟩).run P W = .ok v W ∧ VR W C d v := by
  unfold dPart at h
  split at h
  · rename_i n ga h1 h2
    cases ga with
    | true =>
      simp only [takeC] at h
      split at h
      · rename_i hle
        cases h
        have hx : ∀ j, j < n → ∃ u, W.cell? ⟨g, b + (o + j), none⟩ = some u ∧ ∀ c, cs[o + j]? = some c → VR W C c u := by
          intro j hj
          obtain ⟨u, hu, hr⟩ := hc (o + j) _ (List.getElem?_eq_getElem (by omega))
          refine ⟨u, hu, fun c hc' => ?_⟩
          rw [List.getElem?_eq_getElem (by omega)] at hc'
          cases hc'; exact hr
        have hf := run_loadCells (P := P) W ⟨g, b + o, none⟩ n (fun j => (W.cell? ⟨g, b + (o + j), none⟩).getD undef) (fun j hj => by
          obtain ⟨u, hu, -⟩ := hx j hj
          have : ((⟨g, b + o, none⟩ : Addr).add j) = ⟨g, b + (o + j), none⟩ := by unfold Addr.add; split <;> simp_all [Nat.add_assoc]
          rw [this, hu]; rfl)
        refine ⟨.agg ((List.range n).map fun j => (W.cell? ⟨g, b + (o + j), none⟩).getD undef).toArray, ?_, VR.agg_of ⟨by simp; omega, fun j c v hj hv => ?_⟩⟩
        · simp only [loadVar, Sem.run_bind, run_isAgg' h2, Result.andThen_ok, if_true, run_size h1, hf, Sem.run_pure]
        · rw [List.getElem?_take] at hj
          split at hj
          · rename_i hjn
            rw [List.getElem?_drop] at hj
            obtain ⟨u, hu, hr⟩ := hx j hjn
            have := hr c hj
            rw [List.getElem?_map, List.getElem?_range hjn] at hv
            simp only [Option.map_some, Option.some.injEq] at hv
            rw [← hv, hu]; exact this
          · cases hj
      · cases h
    | false =>
      simp only [takeC] at h
      obtain ⟨u, hu, hr⟩ := hc o d h
      refine ⟨u, ?_, hr⟩
      have e : (⟨g, b + o, none⟩ : Addr) = ⟨g, b + o, none⟩ := rfl
      simp only [loadVar, Sem.run_bind, run_isAgg' h2, Result.andThen_ok, Bool.false_eq_true, if_false, load, Sem.run, hu]
  · cases h
theorem behind_spec (hs : SR W C S) {x : D} {v : Value} (hx : VR W C x v) {cs : List D} {o : Nat} (h : behind S x = some (cs, o)) : ∃ g b, v = .pointer (some ⟨g, b + o, none⟩) ∧ ∀ j c, cs[j]? = some c → ∃ u, W.cell? ⟨g, b + j, none⟩ = some u ∧ VR W C c u := by
  cases hx <;> try (simp [behind] at h; done)
  case ref cs' o' g b vs hg hc hv =>
    simp only [behind, Option.some.injEq, Prod.mk.injEq] at h
    obtain ⟨rfl, rfl⟩ := h
    exact ⟨g, b, rfl, fun j c hj => ⟨vs j, hc j (List.getElem?_eq_some_iff.1 hj).1, hv j c hj⟩⟩
  case loc k i o' g sz tot T hr =>
    simp only [behind] at h
    split at h
    · rename_i s es hk
      split at h
      · rename_i cs' hi
        simp only [Option.some.injEq, Prod.mk.injEq] at h
        obtain ⟨rfl, rfl⟩ := h
        obtain ⟨⟨rfl, h2, h3, vs, h4, h5, h6⟩, -, -⟩ := hs.at hk (by simp) hr
        refine ⟨g, i * s, rfl, fun j c hj => ?_⟩
        obtain ⟨u, hu, hr', -⟩ := h6 i j _ c hi hj
        exact ⟨u, by rw [cell_of_row W g (i * s + j) vs T (0, 0) h4]; exact hu, hr'⟩
      · cases h
    · cases h
theorem run_dLoad (hs : SR W C S) {t : TypeId} {x d : D} {v : Value} (hx : VR W C x v) (h : dLoad P S t x = some d) : ∃ u, (Instr.loadAt t v).run P W = .ok u W ∧ VR W C d u := by
  unfold dLoad at h
  split at h
  · rename_i cs o hb
    obtain ⟨g, b, rfl, hc⟩ := behind_spec hs hx hb
    obtain ⟨u, hu, hr⟩ := run_loadVar' h hc
    exact ⟨u, by simp only [Instr.loadAt, Instr.sureAddr, Sem.run_bind, Sem.run_pure, Result.andThen_ok, hu], hr⟩
  · cases h
end
end Go.Proofs.YtlamgjbngblefaaDoor.Dm
