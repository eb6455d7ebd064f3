/-
  What plain data of a type are: words for structs, and for slices of them.
-/
import Derived.Test.YtajhgnefcddenaaDoorWp
import Derived.Test.YtajhgnefcddenaaDoorTv
import Derived.Test.YtajhgnefcddenaaDoorTod
namespace Go.Proofs.YtajhgnefcddenaaDoor
open Go Dm Go.RowKit

theorem int_bd {n : Int} (h : (Lit.int .i64 n).wf = true) : -9223372036854775808 ≤ n ∧ n ≤ 9223372036854775807 := by
  unfold Lit.wf at h
  rw [Bool.and_eq_true, decide_eq_true_eq, decide_eq_true_eq] at h
  exact h
theorem len_bd {n : Nat} (h : n ≤ maxLen) : n ≤ 9223372036854775807 := by
  simp only [maxLen] at h; omega
/-- Cells that stand for what others stand for. -/
def CellR (e e' : List D) : Prop := e'.length = e.length ∧ ∀ (j : Nat) (c c' : D), e[j]? = some c → e'[j]? = some c' → c'.one = true ∧ ∀ W C u, VR W C c u → VR W C c' u
theorem nils_sl {W : World} {C : Cx} {v : Value} {sz : Nat} (h : VR W C .nils v) : VR W C (.sl sz [] true) v := by
  cases h
  exact .sl0 (fun _ => rfl)
theorem list_rel {α : Type} {enc : α → List D} {Q : α → Prop} : ∀ {es : List (List D)}, (∀ (j : Nat) (c : List D), es[j]? = some c → ∃ r : α, CellR c (enc r) ∧ Q r) → ∃ rs : List α, rs.length = es.length ∧ (∀ (j : Nat) (c : List D) (r : α), es[j]? = some c → rs[j]? = some r → CellR c (enc r)) ∧ ∀ r ∈ rs, Q r
  | [], _ => ⟨[], rfl, fun j c r h => by simp at h, fun r h => by cases h⟩
  | e :: es, h => by
    obtain ⟨r, hr, hq⟩ := h 0 e rfl
    obtain ⟨rs, h1, h2, h3⟩ := list_rel (es := es) fun j c hc => h (j + 1) c (by simpa using hc)
    refine ⟨r :: rs, by simp [h1], fun j c r' hc hr' => ?_, fun x hx => ?_⟩
    · cases j with
      | zero => have e1 : e = c := by simpa using hc
                have e2 : r = r' := by simpa using hr'
                rw [← e1, ← e2]; exact hr
      | succ j => exact h2 j c r' (by simpa using hc) (by simpa using hr')
    · rcases List.mem_cons.1 hx with rfl | hx
      · exact hq
      · exact h3 x hx
theorem VR.sl_rel {W : World} {C : Cx} {sz : Nat} {es es' : List (List D)} {x : Bool} {v : Value} (h : VR W C (.sl sz es x) v) (hl : es'.length = es.length) (hr : ∀ (j : Nat) (e e' : List D), es[j]? = some e → es'[j]? = some e' → CellR e e') : VR W C (.sl sz es' x) v := by
  have at' : ∀ {j : Nat} {e' : List D}, es'[j]? = some e' → ∃ e, es[j]? = some e := fun {j e'} h => by
    have hj := (List.getElem?_eq_some_iff.1 h).1
    exact ⟨es[j]'(by omega), List.getElem?_eq_getElem (by omega)⟩
  have cell : ∀ {e e' : List D} {j : Nat} {c' : D}, CellR e e' → e'[j]? = some c' → ∃ c, e[j]? = some c := fun {e e' j c'} h k => by
    have hj := (List.getElem?_eq_some_iff.1 k).1
    exact ⟨e[j]'(by rw [← h.1]; exact hj), List.getElem?_eq_getElem (by rw [← h.1]; exact hj)⟩
  cases h with
  | sl vs hp hg hcap hx hs hc ho hv =>
    rw [← hl] at hp hcap hx hc ⊢
    refine .sl vs hp hg hcap hx (fun i e' he' => ?_) hc (fun i j e' c' he' hc' => ?_) (fun i j e' c' he' hc' => ?_)
    · obtain ⟨e, he⟩ := at' he'
      rw [(hr i e e' he he').1]; exact hs i e he
    · obtain ⟨e, he⟩ := at' he'
      obtain ⟨c, hc⟩ := cell (hr i e e' he he') hc'
      exact ((hr i e e' he he').2 j c c' hc hc').1
    · obtain ⟨e, he⟩ := at' he'
      obtain ⟨c, hc⟩ := cell (hr i e e' he he') hc'
      exact ((hr i e e' he he').2 j c c' hc hc').2 _ _ _ (hv i j e c he hc)
  | sl0 hx =>
    have : es' = [] := List.eq_nil_of_length_eq_zero (by simpa using hl)
    subst this
    exact .sl0 hx
theorem CellR.refl {c : List D} (h : ∀ d ∈ c, d.one = true) : CellR c c := ⟨rfl, fun j x y hx hy => by
  rw [hx] at hy
  cases hy
  exact ⟨h _ (List.mem_of_getElem? hx), fun _ _ _ h => h⟩⟩
theorem slices_rel {α : Type} {enc : α → List D} {Q : α → Prop} {t e : TypeId} {n : Nat} (ht : Tryd.prog.underlying t = some (.slice e)) (hn : Tryd.prog.cellsOf e = n) (hof : ∀ c, TC Tryd.prog e c → ∃ r : α, CellR c (enc r) ∧ Q r) {d : D} (h : TC Tryd.prog t [d]) :
    ∃ (l : List α) (x : Bool), ((∀ r ∈ l, Q r) ∧ l.length ≤ 9223372036854775807) ∧ ∀ W C u, VR W C d u → VR W C (.sl n (l.map enc) x) u := by
  rcases h.toSlice ht with h | ⟨es, x, h, hle, hes⟩
  · have : d = .nils := by simpa using h
    subst this
    exact ⟨[], true, ⟨(fun r h => by cases h), by simp⟩, fun W C u hu => nils_sl hu⟩
  · rw [hn] at h
    have : d = .sl n es x := by simpa using h
    subst this
    obtain ⟨l, hl, hr, hq⟩ := list_rel (enc := enc) fun j c hc => hof c (hes j c hc)
    refine ⟨l, x, ⟨hq, by rw [hl]; exact len_bd hle⟩, fun W C u hu => VR.sl_rel hu (by rw [List.length_map]; exact hl) fun j e e' he he' => ?_⟩
    rw [List.getElem?_map] at he'
    obtain ⟨r, hr', rfl⟩ := Option.map_eq_some_iff.1 he'
    exact hr j e r he hr'
end Go.Proofs.YtajhgnefcddenaaDoor
