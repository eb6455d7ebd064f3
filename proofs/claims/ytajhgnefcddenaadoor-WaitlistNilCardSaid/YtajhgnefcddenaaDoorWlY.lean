/-
  What plain data of a request are.
-/
import Derived.Test.YtajhgnefcddenaaDoorZg
import Derived.Test.YtajhgnefcddenaaDoorWlT
namespace Go.Proofs.YtajhgnefcddenaaDoor
open Go Dm Go.RowKit
set_option linter.unusedSimpArgs false

theorem cells_gint : Tryd.prog.cellsOf 3 = 1 := by kernel_rfl
theorem cells_gstr : Tryd.prog.cellsOf 9 = 1 := by kernel_rfl
theorem cells_Lid : Tryd.prog.cellsOf 61 = 4 := by kernel_rfl
theorem cells_Wt : Tryd.prog.cellsOf 24 = 5 := by kernel_rfl
theorem cells_slLegId : Tryd.prog.cellsOf 22 = 1 := by kernel_rfl
set_option maxHeartbeats 1000000 in
set_option maxRecDepth 100000 in
theorem Lid_of_w {c : List D} (h : TC Tryd.prog 61 c) : ∃ r : Lid, CellR c r.enc ∧ r.Ok := by
  obtain ⟨hl, hf⟩ := h.toStruct Tryd.underlying61
  rw [cells_Lid] at hl
  obtain ⟨a0, a1, a2, a3, rfl⟩ : ∃ a0 a1 a2 a3, c = [a0, a1, a2, a3] := by
    clear hf h
    match c, hl with
    | [a0, a1, a2, a3], _ => exact ⟨a0, a1, a2, a3, rfl⟩
  simp only [List.mem_cons, List.not_mem_nil, or_false, forall_eq_or_imp, forall_eq, cells_gint, cells_gstr, cells_Lid, cells_Wt, cells_slLegId, List.drop_succ_cons, List.drop_zero, List.take_succ_cons, List.take_zero] at hf
  obtain ⟨h0, h1, h2, h3⟩ := hf
  obtain ⟨s4, e4, z4⟩ := h0.toStr Tryd.underlying9
  obtain ⟨s5, e5, z5⟩ := h1.toInt Tryd.underlying3
  obtain ⟨s6, e6, z6⟩ := h2.toInt Tryd.underlying3
  obtain ⟨s7, e7, z7⟩ := h3.toStr Tryd.underlying9
  simp only [List.cons.injEq, and_true] at e4 e5 e6 e7
  subst e4 e5 e6 e7
  refine ⟨⟨s4, s5, s6, s7⟩, ⟨rfl, fun j c c' hc hc' => ?_⟩, len_bd z4, int_bd z5, int_bd z6, len_bd z7, trivial⟩
  match j, hc, hc' with
  | 0, hc, hc' => cases hc; cases hc'; exact ⟨rfl, fun _ _ _ h => h⟩
  | 1, hc, hc' => cases hc; cases hc'; exact ⟨rfl, fun _ _ _ h => h⟩
  | 2, hc, hc' => cases hc; cases hc'; exact ⟨rfl, fun _ _ _ h => h⟩
  | 3, hc, hc' => cases hc; cases hc'; exact ⟨rfl, fun _ _ _ h => h⟩
  | j + 4, hc, hc' => simp at hc
set_option maxHeartbeats 1000000 in
set_option maxRecDepth 100000 in
theorem Wt_of {c : List D} (h : TC Tryd.prog 24 c) : ∃ r : Wt, CellR c r.enc ∧ r.Ok := by
  obtain ⟨hl, hf⟩ := h.toStruct Tryd.underlying24
  rw [cells_Wt] at hl
  obtain ⟨a0, a1, a2, a3, a4, rfl⟩ : ∃ a0 a1 a2 a3 a4, c = [a0, a1, a2, a3, a4] := by
    clear hf h
    match c, hl with
    | [a0, a1, a2, a3, a4], _ => exact ⟨a0, a1, a2, a3, a4, rfl⟩
  simp only [List.mem_cons, List.not_mem_nil, or_false, forall_eq_or_imp, forall_eq, cells_gint, cells_gstr, cells_Lid, cells_Wt, cells_slLegId, List.drop_succ_cons, List.drop_zero, List.take_succ_cons, List.take_zero] at hf
  obtain ⟨h0, h1, h2, h3, h4⟩ := hf
  obtain ⟨s5, e5, z5⟩ := h0.toInt Tryd.underlying3
  obtain ⟨l6, x6, z6, v6⟩ := slices_rel (enc := Lid.enc) (n := 4) Tryd.underlying22 cells_Lid (fun c h => Lid_of_w h) h1
  obtain ⟨s7, e7, z7⟩ := h2.toStr Tryd.underlying9
  obtain ⟨s8, e8, z8⟩ := h3.toInt Tryd.underlying3
  obtain ⟨s9, e9, z9⟩ := h4.toInt Tryd.underlying3
  simp only [List.cons.injEq, and_true] at e5 e7 e8 e9
  subst e5 e7 e8 e9
  refine ⟨⟨s5, l6, x6, s7, s8, s9⟩, ⟨rfl, fun j c c' hc hc' => ?_⟩, int_bd z5, z6, len_bd z7, int_bd z8, int_bd z9, trivial⟩
  match j, hc, hc' with
  | 0, hc, hc' => cases hc; cases hc'; exact ⟨rfl, fun _ _ _ h => h⟩
  | 1, hc, hc' => cases hc; cases hc'; exact ⟨rfl, v6⟩
  | 2, hc, hc' => cases hc; cases hc'; exact ⟨rfl, fun _ _ _ h => h⟩
  | 3, hc, hc' => cases hc; cases hc'; exact ⟨rfl, fun _ _ _ h => h⟩
  | 4, hc, hc' => cases hc; cases hc'; exact ⟨rfl, fun _ _ _ h => h⟩
  | j + 5, hc, hc' => simp at hc
end Go.Proofs.YtajhgnefcddenaaDoor
