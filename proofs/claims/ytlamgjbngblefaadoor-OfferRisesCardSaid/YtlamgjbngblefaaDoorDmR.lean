/-
  How the machine's data stand for values in memory, and what a step keeps of them.
-/
import Derived.Test.YtlamgjbngblefaaDoorDm
import Derived.Below
namespace Go.Proofs.YtlamgjbngblefaaDoor.Dm
open Go Go.RowKit

/-- R: where the store's objects lie: block, cells of an element, all cells, type. I: the blocks that nobody writes. -/
structure Cx where
  P : Program
  R : Nat → Option (Nat × Nat × Nat × TypeId)
  I : Nat → Prop

inductive VR (W : World) (C : Cx) : D → Value → Prop where
  | undef (v : Value) : VR W C .undef v
  | bool (b : Bool) : VR W C (.bool b) (.bool b)
  | int (k : IntKind) (n : Int) : VR W C (.int k n) (.int k n)
  | str (s : ByteArray) : VR W C (.str s) (.string s)
  | nilp : VR W C .nilp (.pointer none)
  | ref {cs : List D} {o g b : Nat} (vs : Nat → Value) (hg : C.I g) (hc : ∀ j, j < cs.length → W.cell? ⟨g, b + j, none⟩ = some (vs j)) (hv : ∀ (j : Nat) (c : D), cs[j]? = some c → VR W C c (vs j)) : VR W C (.ref cs o) (.pointer (some ⟨g, b + o, none⟩))
  | loc {k i o g sz tot : Nat} {T : TypeId} (hr : C.R k = some (g, sz, tot, T)) : VR W C (.loc k i o) (.pointer (some ⟨g, i * sz + o, none⟩))
  | nils : VR W C .nils (.slice none 0 0)
  | sl {sz : Nat} {es : List (List D)} {x : Bool} {g b cap : Nat} (vs : Nat → Nat → Value) (hp : 0 < es.length) (hg : C.I g) (hcap : es.length ≤ cap) (hx : x = true → cap = es.length)
      (hs : ∀ (i : Nat) (e : List D), es[i]? = some e → e.length = sz) (hc : ∀ i j, i < es.length → j < sz → W.cell? ⟨g, b + (i * sz + j), none⟩ = some (vs i j)) (ho : ∀ (i j : Nat) (e : List D) (c : D), es[i]? = some e → e[j]? = some c → c.one = true) (hv : ∀ (i j : Nat) (e : List D) (c : D), es[i]? = some e → e[j]? = some c → VR W C c (vs i j)) :
      VR W C (.sl sz es x) (.slice (some ⟨g, b, none⟩) es.length cap)
  | sl0 {sz : Nat} {x : Bool} {a : Option Addr} {cap : Nat} (hx : x = true → cap = 0) : VR W C (.sl sz [] x) (.slice a 0 cap)
  | os {k i len : Nat} {x : Bool} {g sz tot cap : Nat} {T : TypeId} (hr : C.R k = some (g, sz, tot, T)) (hl : len ≤ cap) (hx : x = true → cap = len) (hx' : x = false → (i + cap) * sz = tot) (hx'' : (i + cap) * sz ≤ tot) :
      VR W C (.os k i len x) (.slice (some ⟨g, i * sz, none⟩) len cap)
  | osc {k i len cap g sz tot : Nat} {T : TypeId} (hr : C.R k = some (g, sz, tot, T)) (hl : len ≤ cap) (hc : (i + cap) * sz = tot) : VR W C (.osc k i len cap) (.slice (some ⟨g, i * sz, none⟩) len cap)
  | nilm : VR W C .nilm (.map none)
  | map {k g sz tot : Nat} {T : TypeId} (hr : C.R k = some (g, sz, tot, T)) : VR W C (.map k) (.map (some g))
  | it0 {g since last : Nat} {seen : Array Nat} (hg : C.I g) (hh : W.heap[g]? = some (.mapIter none since seen last)) : VR W C .it0 (.pointer (some ⟨g, 0, none⟩))
  | itE {k g gm sz tot since last : Nat} {T : TypeId} (hr : C.R k = some (gm, sz, tot, T)) (hg : C.I g) (hh : W.heap[g]? = some (.mapIter (some gm) since #[] last)) (hl : since ≤ last) : VR W C (.itE k) (.pointer (some ⟨g, 0, none⟩))
  | nilf : VR W C .nilf .nilFunc
  | func {f : FuncId} {x y : List D} {vx vy : Array Value} (hx : x.length = vx.size) (hy : y.length = vy.size) (hvx : ∀ (j : Nat) (d : D) (v : Value), x[j]? = some d → vx[j]? = some v → VR W C d v) (hvy : ∀ (j : Nat) (d : D) (v : Value), y[j]? = some d → vy[j]? = some v → VR W C d v) : VR W C (.func f x y) (.func (.func f) vx vy)
  | nili : VR W C .nili .nilIface
  | iface {t : TypeId} {d : D} {v : Value} (h : VR W C d v) : VR W C (.iface t d) (.iface t v)
  | agg {cs : List D} {vs : Array Value} (hl : cs.length = vs.size) (hv : ∀ (j : Nat) (d : D) (v : Value), cs[j]? = some d → vs[j]? = some v → VR W C d v) : VR W C (.agg cs) (.agg vs)
  | tup {ds : List D} {vs : Array Value} (hl : ds.length = vs.size) (hv : ∀ (j : Nat) (d : D) (v : Value), ds[j]? = some d → vs[j]? = some v → VR W C d v) : VR W C (.tup ds) (.tuple vs)

theorem VR.mono {W W' : World} {C C' : Cx} (hI : ∀ g, C.I g → C'.I g ∧ W'.heap[g]? = W.heap[g]?) (hR : ∀ k x, C.R k = some x → C'.R k = some x) {d : D} {v : Value} (h : VR W C d v) : VR W' C' d v := by
  induction h with
  | undef v => exact .undef v
  | bool b => exact .bool b
  | int k n => exact .int k n
  | str s => exact .str s
  | nilp => exact .nilp
  | ref vs hg hc hv ih => exact .ref vs (hI _ hg).1 (fun j hj => (World.cell?_of_block (w := W) (w' := W') (hI _ hg).2).trans (hc j hj)) ih
  | loc hr => exact .loc (hR _ _ hr)
  | nils => exact .nils
  | sl vs hp hg hcap hx hs hc ho hv ih => exact .sl vs hp (hI _ hg).1 hcap hx hs (fun i j hi hj => (World.cell?_of_block (w := W) (w' := W') (hI _ hg).2).trans (hc i j hi hj)) ho ih
  | sl0 hx => exact .sl0 hx
  | os hr hl hx hx' hx'' => exact .os (hR _ _ hr) hl hx hx' hx''
  | osc hr hl hc => exact .osc (hR _ _ hr) hl hc
  | nilm => exact .nilm
  | map hr => exact .map (hR _ _ hr)
  | it0 hg hh => exact .it0 (hI _ hg).1 ((hI _ hg).2.trans hh)
  | itE hr hg hh hl => exact .itE (hR _ _ hr) (hI _ hg).1 ((hI _ hg).2.trans hh) hl
  | nilf => exact .nilf
  | func hx hy _ _ ih1 ih2 => exact .func hx hy ih1 ih2
  | nili => exact .nili
  | iface _ ih => exact .iface ih
  | agg hl _ ih => exact .agg hl ih
  | tup hl _ ih => exact .tup hl ih

/-- Lists of data and of values, one by one. -/
def VRs (W : World) (C : Cx) (ds : List D) (vs : List Value) : Prop := ds.length = vs.length ∧ ∀ (j : Nat) (d : D) (v : Value), ds[j]? = some d → vs[j]? = some v → VR W C d v
theorem VRs.nil {W : World} {C : Cx} : VRs W C [] [] := ⟨rfl, fun j d v h => by simp at h⟩
theorem VRs.cons {W : World} {C : Cx} {d : D} {v : Value} {ds : List D} {vs : List Value} (h : VR W C d v) (hs : VRs W C ds vs) : VRs W C (d :: ds) (v :: vs) := by
  refine ⟨by simp [hs.1], fun j a b ha hb => ?_⟩
  cases j with
  | zero => simp at ha hb; subst ha; subst hb; exact h
  | succ j => exact hs.2 j a b (by simpa using ha) (by simpa using hb)
theorem VRs.get {W : World} {C : Cx} {ds : List D} {vs : List Value} (h : VRs W C ds vs) {j : Nat} {d : D} (hj : ds[j]? = some d) : ∃ v, vs[j]? = some v ∧ VR W C d v := by
  have hl : j < vs.length := by rw [← h.1]; exact (List.getElem?_eq_some_iff.1 hj).1
  exact ⟨vs[j], List.getElem?_eq_getElem hl, h.2 j _ _ hj (List.getElem?_eq_getElem hl)⟩
theorem VRs.head {W : World} {C : Cx} {d : D} {ds : List D} {v : Value} {vs : List Value} (h : VRs W C (d :: ds) (v :: vs)) : VR W C d v := h.2 0 _ _ rfl rfl
theorem VRs.tail {W : World} {C : Cx} {d : D} {ds : List D} {v : Value} {vs : List Value} (h : VRs W C (d :: ds) (v :: vs)) : VRs W C ds vs :=
  ⟨by simpa using h.1, fun j a b ha hb => h.2 (j + 1) a b (by simpa using ha) (by simpa using hb)⟩
theorem VRs.mono {W W' : World} {C C' : Cx} {ds : List D} {vs : List Value} (h : VRs W C ds vs) (hm : ∀ d v, VR W C d v → VR W' C' d v) : VRs W' C' ds vs := ⟨h.1, fun j d v hd hv => hm _ _ (h.2 j d v hd hv)⟩
theorem VRs.append {W : World} {C : Cx} {a b : List D} {v u : List Value} (h : VRs W C a v) (k : VRs W C b u) : VRs W C (a ++ b) (v ++ u) := by
  refine ⟨by simp [h.1, k.1], fun j d w hd hw => ?_⟩
  by_cases hj : j < a.length
  · rw [List.getElem?_append_left hj] at hd
    rw [List.getElem?_append_left (by rw [← h.1]; exact hj)] at hw
    exact h.2 j d w hd hw
  · rw [List.getElem?_append_right (by omega)] at hd
    rw [List.getElem?_append_right (by rw [← h.1]; omega)] at hw
    exact k.2 _ d w hd (by rw [h.1]; exact hw)
theorem VRs.drop {W : World} {C : Cx} {a : List D} {v : List Value} (h : VRs W C a v) (n : Nat) : VRs W C (a.drop n) (v.drop n) :=
  ⟨by simp [h.1], fun j d w hd hw => h.2 (n + j) d w (by simpa using hd) (by simpa using hw)⟩
theorem VRs.take {W : World} {C : Cx} {a : List D} {v : List Value} (h : VRs W C a v) (n : Nat) : VRs W C (a.take n) (v.take n) := by
  refine ⟨by simp [h.1], fun j d w hd hw => ?_⟩
  rw [List.getElem?_take] at hd hw
  split at hd
  · rename_i hj; rw [if_pos hj] at hw; exact h.2 j d w hd hw
  · cases hd
theorem VRs.set {W : World} {C : Cx} {a : List D} {v : List Value} (h : VRs W C a v) (n : Nat) {d : D} {u : Value} (hd : VR W C d u) : VRs W C (a.set n d) (v.set n u) := by
  refine ⟨by simp [h.1], fun j x y hx hy => ?_⟩
  rw [List.getElem?_set] at hx hy
  by_cases hj : n = j
  · subst hj
    rw [if_pos rfl] at hx hy
    by_cases hl : n < a.length
    · rw [if_pos hl] at hx; rw [if_pos (by rw [← h.1]; exact hl)] at hy
      cases hx; cases hy; exact hd
    · rw [if_neg hl] at hx; cases hx
  · rw [if_neg hj] at hx hy; exact h.2 j x y hx hy
theorem VR.of_agg {W : World} {C : Cx} {cs : List D} {v : Value} (h : VR W C (.agg cs) v) : ∃ vs, v = .agg vs ∧ VRs W C cs vs.toList := by
  cases h with
  | agg hl hv => exact ⟨_, rfl, by simpa using hl, fun j d u hd hu => hv j d u hd (by simpa using hu)⟩
theorem VR.agg_of {W : World} {C : Cx} {cs : List D} {vs : List Value} (h : VRs W C cs vs) : VR W C (.agg cs) (.agg vs.toArray) :=
  .agg (by simpa using h.1) (fun j d u hd hu => h.2 j d u hd (by simpa using hu))
theorem VR.of_tup {W : World} {C : Cx} {cs : List D} {v : Value} (h : VR W C (.tup cs) v) : ∃ vs, v = .tuple vs ∧ VRs W C cs vs.toList := by
  cases h with
  | tup hl hv => exact ⟨_, rfl, by simpa using hl, fun j d u hd hu => hv j d u hd (by simpa using hu)⟩
theorem VR.tup_of {W : World} {C : Cx} {cs : List D} {vs : List Value} (h : VRs W C cs vs) : VR W C (.tup cs) (.tuple vs.toArray) :=
  .tup (by simpa using h.1) (fun j d u hd hu => h.2 j d u hd (by simpa using hu))
/-- A datum of one cell stands for a value of one cell. -/
theorem VR.one {W : World} {C : Cx} {d : D} {v : Value} (h : VR W C d v) (h1 : d.one = true) : v.oneCell' = true := by
  cases h <;> first | rfl | (simp [D.one] at h1)
theorem VR.cells {W : World} {C : Cx} {d : D} {v : Value} (h : VR W C d v) (h1 : d ≠ .undef) : VRs W C d.cells v.cells.toList := by
  cases h with
  | undef v => exact absurd rfl h1
  | agg hl hv => exact ⟨by simpa [D.cells, Value.cells] using hl, fun j d u hd hu => hv j d u hd (by simpa [Value.cells] using hu)⟩
  | _ => refine VRs.cons ?_ VRs.nil; constructor <;> assumption

theorem fromCell_vr {W : World} {C : Cx} {v : Value} {d : D} (h : fromCell v = some d) : VR W C d v := by
  unfold fromCell at h
  split at h
  case h_8 f a b =>
    split at h
    · rename_i h0
      cases h
      refine .func (by simpa using h0.1.symm) (by simpa using h0.2.symm) ?_ ?_ <;> intro j d v hd <;> simp at hd
    · cases h
  all_goals first | (cases h; constructor) | cases h
theorem fromCells_vr {W : World} {C : Cx} : ∀ {vs : List Value} {ds : List D}, fromCells vs = some ds → VRs W C ds vs
  | [], ds, h => by simp [fromCells] at h; subst h; exact VRs.nil
  | v :: vs, ds, h => by
    unfold fromCells at h
    split at h
    · rename_i d ds' h1 h2
      cases h
      exact VRs.cons (fromCell_vr h1) (fromCells_vr h2)
    · cases h
theorem fromVal_vr {W : World} {C : Cx} {v : Value} {d : D} (h : fromVal v = some d) : VR W C d v := by
  unfold fromVal at h
  split at h
  · rename_i cs
    cases hc : fromCells cs.toList with
    | none => rw [hc] at h; cases h
    | some ds =>
      rw [hc] at h
      cases h
      have := VR.agg_of (fromCells_vr (W := W) (C := C) hc)
      simpa using this
  · exact fromCell_vr h
theorem fromCell_one {v : Value} {d : D} (h : fromCell v = some d) : d ≠ .undef := by
  unfold fromCell at h
  split at h
  case h_8 f a b => split at h <;> cases h; simp
  all_goals first | (cases h; simp; done) | (cases h; done)
theorem fromVal_def {v : Value} {d : D} (h : fromVal v = some d) : d ≠ .undef := by
  unfold fromVal at h
  split at h
  · rename_i cs
    cases hc : fromCells cs.toList with
    | none => rw [hc] at h; cases h
    | some ds => rw [hc] at h; cases h; simp
  · exact fromCell_one h

/-! ### The store -/
def ObR (W : World) (C : Cx) (g sz tot : Nat) (T : TypeId) : Ob → Prop
  | .dead => True
  | .row s es => s = sz ∧ es.length * sz ≤ tot ∧ (∀ (i : Nat) (e : List D), es[i]? = some e → e.length = sz) ∧ ∃ vs : Array Value, W.heap[g]? = some (.cells vs T (0, 0)) ∧ vs.size = tot ∧
      ∀ (i j : Nat) (e : List D) (c : D), es[i]? = some e → e[j]? = some c → ∃ v, vs[i * sz + j]? = some v ∧ VR W C c v ∧ c.one = true
  | .map kt l => ∃ (es : Array MapEntry) (clock : Nat) (m : List (D × D)), W.heap[g]? = some (.map es clock) ∧ m.Perm l ∧ ((es.toList.map (·.born)).Nodup ∧ ∀ e ∈ es.toList, e.born < clock) ∧ m.length = es.size ∧ (∀ p ∈ m, keyOk C.P kt p.1 = true) ∧ m.Pairwise (fun p q => keyBeq p.1 q.1 = false) ∧ (∀ (i : Nat) (p : D × D) (e : MapEntry), m[i]? = some p → es[i]? = some e → VR W C p.1 e.key ∧ VR W C p.2 e.val)
def Live (C : Cx) (S : List Ob) (b : Nat) : Prop := ∃ k ob sz tot T, S[k]? = some ob ∧ ob ≠ .dead ∧ C.R k = some (b, sz, tot, T)
structure SR (W : World) (C : Cx) (S : List Ob) : Prop where
  ob : ∀ (k : Nat) (ob : Ob), S[k]? = some ob → ob ≠ .dead → ∃ g sz tot T, C.R k = some (g, sz, tot, T) ∧ ObR W C g sz tot T ob ∧ ¬ C.I g ∧ g < W.heap.size
  fresh : ∀ k x, C.R k = some x → k < S.length
  inj : ∀ (k k' : Nat) (ob ob' : Ob) (x x' : Nat × Nat × Nat × TypeId), S[k]? = some ob → ob ≠ .dead → S[k']? = some ob' → ob' ≠ .dead → C.R k = some x → C.R k' = some x' → x.1 = x'.1 → k = k'
  imm : ∀ g, C.I g → g < W.heap.size
structure Fr (W : World) (C : Cx) (S : List Ob) (W' : World) (C' : Cx) (S' : List Ob) : Prop where
  os : W'.os = W.os
  tape : W'.tape = W.tape
  output : W'.output = W.output
  size : W.heap.size ≤ W'.heap.size
  keep : ∀ b, b < W.heap.size → ¬ Live C S b → W'.heap[b]? = W.heap[b]?
  live : ∀ b, Live C' S' b → Live C S b ∨ W.heap.size ≤ b
  R : ∀ k x, C.R k = some x → C'.R k = some x
  I : ∀ g, C.I g → C'.I g
  P : C'.P = C.P
  newI : ∀ g, C'.I g → C.I g ∨ W.heap.size ≤ g
  len : S.length ≤ S'.length
  newR : ∀ k x, C'.R k = some x → C.R k = some x ∨ S.length ≤ k
theorem Fr.refl (W : World) (C : Cx) (S : List Ob) : Fr W C S W C S := ⟨rfl, rfl, rfl, Nat.le_refl _, fun _ _ _ => rfl, fun _ h => .inl h, fun _ _ h => h, fun _ h => h, rfl, fun _ h => .inl h, Nat.le_refl _, fun _ _ h => .inl h⟩
theorem Fr.trans {W W1 W2 : World} {C C1 C2 : Cx} {S S1 S2 : List Ob} (h : Fr W C S W1 C1 S1) (k : Fr W1 C1 S1 W2 C2 S2) : Fr W C S W2 C2 S2 :=
  ⟨k.os.trans h.os, k.tape.trans h.tape, k.output.trans h.output, Nat.le_trans h.size k.size,
    fun b hb hn => (k.keep b (Nat.lt_of_lt_of_le hb h.size) (fun hl => (h.live b hl).elim hn (fun h' => by omega))).trans (h.keep b hb hn),
    fun b hb => (k.live b hb).elim (h.live b) (fun h' => .inr (Nat.le_trans h.size h')),
    fun i x hx => k.R i x (h.R i x hx), fun g hg => k.I g (h.I g hg), k.P.trans h.P, fun g hg => (k.newI g hg).elim (h.newI g) (fun h' => .inr (Nat.le_trans h.size h')),
    Nat.le_trans h.len k.len, fun i x hx => (k.newR i x hx).elim (h.newR i x) (fun h' => .inr (Nat.le_trans h.len h'))⟩
theorem SR.not_live {W : World} {C : Cx} {S : List Ob} (h : SR W C S) {g : Nat} (hg : C.I g) : ¬ Live C S g := by
  rintro ⟨k, ob, sz, tot, T, h1, h2, h3⟩
  obtain ⟨g', sz', tot', T', h4, -, h5, -⟩ := h.ob k ob h1 h2
  rw [h3] at h4
  cases h4
  exact h5 hg
theorem Fr.vr {W W' : World} {C C' : Cx} {S S' : List Ob} (h : Fr W C S W' C' S') (hs : SR W C S) {d : D} {v : Value} (hv : VR W C d v) : VR W' C' d v :=
  hv.mono (fun g hg => ⟨h.I g hg, h.keep g (hs.imm g hg) (hs.not_live hg)⟩) h.R
theorem SR.live_lt {W : World} {C : Cx} {S : List Ob} (h : SR W C S) {b : Nat} (hb : Live C S b) : b < W.heap.size := by
  obtain ⟨k, ob, sz, tot, T, h1, h2, h3⟩ := hb
  obtain ⟨g', sz', tot', T', h4, -, -, h5⟩ := h.ob k ob h1 h2
  rw [h3] at h4
  cases h4
  exact h5

/-- The frame's temporaries. -/
structure AR (W : World) (C : Cx) (act : List D) (a : Act) : Prop where
  vals : VRs W C act a.tmps.toList
  defers : a.defers = []
theorem AR.fr {W W' : World} {C C' : Cx} {S S' : List Ob} {act : List D} {a : Act} (h : AR W C act a) (hs : SR W C S) (hf : Fr W C S W' C' S') : AR W' C' act a := ⟨h.vals.mono fun _ _ hv => hf.vr hs hv, h.defers⟩
/-- Package-level variables that are known. -/
def GR (W : World) (C : Cx) (G : Nat → Option (List D)) : Prop := ∀ g cs, G g = some cs → VR W C (.ref cs 0) (.pointer (some ⟨g, 0, none⟩))
theorem GR.fr {W W' : World} {C C' : Cx} {S S' : List Ob} {G : Nat → Option (List D)} (h : GR W C G) (hs : SR W C S) (hf : Fr W C S W' C' S') : GR W' C' G := fun g cs hg => hf.vr hs (h g cs hg)
theorem AR.put {W : World} {C : Cx} {act : List D} {a : Act} (h : AR W C act a) (dst : Option Tmp) {d : D} {v : Value} (hv : VR W C d v) : AR W C (putD act dst d) (a.put dst v) := by
  cases dst with
  | none => exact h
  | some t => exact ⟨by simpa [putD, Act.put] using h.vals.set t hv, h.defers⟩
theorem AR.eval {E : Env} {W : World} {C : Cx} {act : List D} {a : Act} (h : AR W C act a) (hG : GR W C E.G) (x : Operand) : VR W C (evD E act x) (a.eval x) := by
  cases x with
  | tmp t =>
    show VR W C ((act[t]?).getD .undef) _
    cases ht : act[t]? with
    | none => exact .undef _
    | some d =>
      obtain ⟨v, hv, hr⟩ := h.vals.get ht
      have : a.eval (.tmp t) = v := by
        show a.tmps.getD t undef = v
        rw [Array.getElem?_toList] at hv
        simp [Array.getD_eq_getD_getElem?, hv]
      rw [this]; exact hr
  | const v =>
    show VR W C ((fromVal v).getD .undef) _
    cases hd : fromVal v with
    | none => exact .undef _
    | some d => exact fromVal_vr hd
  | global g =>
    show VR W C (match E.G g with | some cs => .ref cs 0 | none => .undef) _
    cases hg : E.G g with
    | none => exact .undef _
    | some cs => exact hG g cs hg
  | func f => exact .func rfl rfl (fun j d v hd => by simp at hd) (fun j d v hd => by simp at hd)
end Go.Proofs.YtlamgjbngblefaaDoor.Dm
