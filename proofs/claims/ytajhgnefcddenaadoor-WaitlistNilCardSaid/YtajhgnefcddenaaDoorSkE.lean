/-
  The machine at tables without sales, the program's and the reference's.
-/
import Derived.Test.YtajhgnefcddenaaDoorSkP
namespace Go.Proofs.YtajhgnefcddenaaDoor.Dm
open Go Gw
set_option linter.unusedSimpArgs false
set_option linter.unusedSimpArgs false

abbrev encR (p : Nat × Nat) : List D := [.os p.1 0 p.2 false]
theorem el_tab : elemT Tryd.prog 82 = some 94 := by kernel_rfl
theorem sz_tab : sizeT Tryd.prog 94 = some 1 := by kernel_rfl
theorem ze_tab : zeroT Tryd.prog 94 = some .nils := by kernel_rfl
theorem by_tab : bytesT Tryd.prog 94 ≤ 100000 := by
  have : bytesT Tryd.prog 94 = 24 := by kernel_rfl
  rw [this]; omega
/-- A table that grows. -/
structure TabG (S0 : Nat) (T : List Ob) (lab : Lab) (o i : Nat) (d : D) (l : List (Nat × Nat)) (t : List (List Int)) : Prop where
  gl : GL 1 encR T d l
  len : l.length = t.length
  own : ∀ k n, d = .os k 0 n false → S0 ≤ k ∧ lab k = [o, 2, i]
  row : ∀ (j r n : Nat) (row : List Int), l[j]? = some (r, n) → t[j]? = some row → n = row.length ∧ S0 ≤ r ∧ lab r = [o, 3, i, j] ∧ T[r]? = some (.row 1 (row.map encZ))
theorem TabG.nil {S0 : Nat} {T : List Ob} {lab : Lab} {o i : Nat} : TabG S0 T lab o i .nils [] [] := ⟨GL.nil, rfl, fun k n h => (by cases h), fun j r n row h => by simp at h⟩
theorem TabG.push {S0 : Nat} {T : List Ob} {lab : Lab} {o i : Nat} {d : D} {l : List (Nat × Nat)} {t : List (List Int)} (h : TabG S0 T lab o i d l t) (x : Ob) : TabG S0 (T ++ [x]) lab o i d l t :=
  ⟨h.gl.push x, h.len, h.own, fun j r n row h1 h2 => by
    obtain ⟨g1, g2, g3, g4⟩ := h.row j r n row h1 h2
    exact ⟨g1, g2, g3, get_old g4⟩⟩
theorem get_snoc {α : Type} {l : List α} {x y : α} {j : Nat} (h : (l ++ [x])[j]? = some y) : l[j]? = some y ∨ (j = l.length ∧ y = x) := by
  by_cases hj : j < l.length
  · rw [List.getElem?_append_left hj] at h; exact .inl h
  · rw [List.getElem?_append_right (by omega)] at h
    by_cases e : j = l.length
    · subst e
      rw [Nat.sub_self] at h
      exact .inr ⟨rfl, by simpa using h.symm⟩
    · rw [List.getElem?_eq_none (by simp; omega)] at h; cases h
theorem TabG.add {S0 : Nat} {T : List Ob} {lab : Lab} {o i : Nat} {d : D} {l : List (Nat × Nat)} {t : List (List Int)} (h : TabG S0 T lab o i d l t) (hf : FreshL T lab) (hS : S0 ≤ T.length) (hl : l.length ≤ 1000) (row : List Int) :
    ∃ T2 lab2, dAppend Tryd.prog (T ++ [.row 1 (row.map encZ)]) 82 82 d (.sl 1 [[.os T.length 0 row.length false]] true) = some (.os (T.length + 1) 0 (l.length + 1) false, T2) ∧
      TabG S0 T2 lab2 o i (.os (T.length + 1) 0 (l.length + 1) false) (l ++ [(T.length, row.length)]) (t ++ [row]) ∧ FreshL T2 lab2 ∧ T.length ≤ T2.length ∧ (∀ x, x < T.length → lab2 x = lab x) ∧ (∀ (x : Nat) (ob : Ob), x < S0 → T[x]? = some ob → T2[x]? = some ob) ∧ (∀ (x sz : Nat) (es : List (List D)), sz ≠ 1 → T[x]? = some (.row sz es) → T2[x]? = some (.row sz es)) := by
  obtain ⟨T2, ha, hg, hlen, hkeep, hrw⟩ := app_gl (enc := encR) el_tab sz_tab ze_tab rfl by_tab (h.gl.push (.row 1 (row.map encZ))) (by omega) (T.length, row.length)
  have hL : (T ++ [Ob.row 1 (row.map encZ)]).length = T.length + 1 := by simp
  rw [hL] at ha hg hlen
  have hown : ∀ k n, d = .os k 0 n false → k < T.length := fun k n e => by
    rcases h.gl with ⟨e', -⟩ | ⟨k', e', hk⟩
    · rw [e] at e'; cases e'
    · rw [e] at e'; cases e'; exact lt_of_get hk
  refine ⟨T2, setL (setL lab T.length [o, 3, i, l.length]) (T.length + 1) [o, 2, i], ha, ⟨hg, by simp [h.len], fun k n e => ?_, fun j r n row' h1 h2 => ?_⟩, fun x hx => ?_, by omega, fun x hx => ?_, fun x ob hx h1 => ?_, fun x sz es hz h1 => hrw x sz es hz (get_old h1)⟩
  · injection e with e1
    subst e1
    exact ⟨by omega, setL_self⟩
  · rcases get_snoc h1 with h1 | ⟨rfl, e2⟩
    · have hj : j < t.length := by rw [← h.len]; exact lt_of_get h1
      rw [List.getElem?_append_left hj] at h2
      obtain ⟨g1, g2, g3, g4⟩ := h.row j r n row' h1 h2
      have hr := lt_of_get g4
      refine ⟨g1, g2, ?_, hkeep r _ (fun n' e => ?_) (get_old g4)⟩
      · rw [setL_ne (by omega), setL_ne (by omega)]; exact g3
      · have := (h.own r n' e).2
        rw [g3] at this
        simp at this
    · injection e2 with e2 e3
      subst e2 e3
      rw [h.len, List.getElem?_append_right (Nat.le_refl _), Nat.sub_self] at h2
      have : row = row' := by simpa using h2
      subst this
      refine ⟨rfl, hS, ?_, hkeep _ _ (fun n' e => ?_) get_end⟩
      · rw [setL_ne (by omega), setL_self]
      · have := hown _ _ e; omega
  · rw [setL_ne (by omega), setL_ne (by omega)]
    exact hf x (by omega)
  · rw [setL_ne (by omega), setL_ne (by omega)]
  · refine hkeep x ob (fun n e => ?_) (get_old h1)
    have := (h.own x n e).1
    omega
/-- Labels from a place on. -/
def cutL (S0 : Nat) (lab : Lab) : Lab := fun z => if S0 ≤ z then lab z else []
theorem TabG.cut {S0 : Nat} {T : List Ob} {lab : Lab} {o i : Nat} {d : D} {l : List (Nat × Nat)} {t : List (List Int)} (h : TabG S0 T lab o i d l t) : TabG S0 T (cutL S0 lab) o i d l t :=
  ⟨h.gl, h.len, fun k n e => ⟨(h.own k n e).1, by unfold cutL; rw [if_pos (h.own k n e).1]; exact (h.own k n e).2⟩, fun j r n row h1 h2 => by
    obtain ⟨g1, g2, g3, g4⟩ := h.row j r n row h1 h2
    exact ⟨g1, g2, by unfold cutL; rw [if_pos g2]; exact g3, g4⟩⟩
/-- The table without sales of the first cabins. -/
def emptyT (cabs : List Cab) (c : Nat) : List (List Int) := (cabs.take c).map fun y => List.replicate y.cls.length 0
end Go.Proofs.YtajhgnefcddenaaDoor.Dm
