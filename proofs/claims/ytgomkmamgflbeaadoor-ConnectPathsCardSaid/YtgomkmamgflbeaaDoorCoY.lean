/-
  What plain data of minimum connecting times and of segments are.
-/
import Derived.Test.YtgomkmamgflbeaaDoorZg
import Derived.Test.YtgomkmamgflbeaaDoorCoA
namespace Go.Proofs.YtgomkmamgflbeaaDoor
open Go Dm Go.RowKit
set_option linter.unusedSimpArgs false

namespace Dm
/-- What is said of data of this type. -/
def Cnn.Ok (r : Cnn) : Prop := r.a.size ≤ 9223372036854775807 ∧ r.i.size ≤ 9223372036854775807 ∧ r.o.size ≤ 9223372036854775807 ∧ (-9223372036854775808 ≤ r.m ∧ r.m ≤ 9223372036854775807) ∧ True
/-- What is said of data of this type. -/
def Sgm.Ok (r : Sgm) : Prop := r.c.size ≤ 9223372036854775807 ∧ (-9223372036854775808 ≤ r.n ∧ r.n ≤ 9223372036854775807) ∧ (-9223372036854775808 ≤ r.d ∧ r.d ≤ 9223372036854775807) ∧ r.f.size ≤ 9223372036854775807 ∧ r.t.size ≤ 9223372036854775807 ∧ (-9223372036854775808 ≤ r.dep ∧ r.dep ≤ 9223372036854775807) ∧ (-9223372036854775808 ≤ r.arr ∧ r.arr ≤ 9223372036854775807) ∧ True
end Dm
theorem cells_gint : Tryd.prog.cellsOf 3 = 1 := by kernel_rfl
theorem cells_gstr : Tryd.prog.cellsOf 9 = 1 := by kernel_rfl
theorem cells_Cnn : Tryd.prog.cellsOf 59 = 4 := by kernel_rfl
theorem cells_Sgm : Tryd.prog.cellsOf 24 = 7 := by kernel_rfl
set_option maxHeartbeats 1000000 in
set_option maxRecDepth 100000 in
theorem Cnn_of {c : List D} (h : TC Tryd.prog 59 c) : ∃ r : Cnn, CellR c r.enc ∧ r.Ok := by
  obtain ⟨hl, hf⟩ := h.toStruct Tryd.underlying59
  rw [cells_Cnn] at hl
  obtain ⟨a0, a1, a2, a3, rfl⟩ : ∃ a0 a1 a2 a3, c = [a0, a1, a2, a3] := by
    clear hf h
    match c, hl with
    | [a0, a1, a2, a3], _ => exact ⟨a0, a1, a2, a3, rfl⟩
  simp only [List.mem_cons, List.not_mem_nil, or_false, forall_eq_or_imp, forall_eq, cells_gint, cells_gstr, cells_Cnn, cells_Sgm, List.drop_succ_cons, List.drop_zero, List.take_succ_cons, List.take_zero] at hf
  obtain ⟨h0, h1, h2, h3⟩ := hf
  obtain ⟨s4, e4, z4⟩ := h0.toStr Tryd.underlying9
  obtain ⟨s5, e5, z5⟩ := h1.toStr Tryd.underlying9
  obtain ⟨s6, e6, z6⟩ := h2.toStr Tryd.underlying9
  obtain ⟨s7, e7, z7⟩ := h3.toInt Tryd.underlying3
  simp only [List.cons.injEq, and_true] at e4 e5 e6 e7
  subst e4 e5 e6 e7
  refine ⟨⟨s4, s5, s6, s7⟩, ⟨rfl, fun j c c' hc hc' => ?_⟩, len_bd z4, len_bd z5, len_bd z6, int_bd z7, trivial⟩
  match j, hc, hc' with
  | 0, hc, hc' => cases hc; cases hc'; exact ⟨rfl, fun _ _ _ h => h⟩
  | 1, hc, hc' => cases hc; cases hc'; exact ⟨rfl, fun _ _ _ h => h⟩
  | 2, hc, hc' => cases hc; cases hc'; exact ⟨rfl, fun _ _ _ h => h⟩
  | 3, hc, hc' => cases hc; cases hc'; exact ⟨rfl, fun _ _ _ h => h⟩
  | j + 4, hc, hc' => simp at hc
set_option maxHeartbeats 1000000 in
set_option maxRecDepth 100000 in
theorem Sgm_of {c : List D} (h : TC Tryd.prog 24 c) : ∃ r : Sgm, CellR c r.enc ∧ r.Ok := by
  obtain ⟨hl, hf⟩ := h.toStruct Tryd.underlying24
  rw [cells_Sgm] at hl
  obtain ⟨a0, a1, a2, a3, a4, a5, a6, rfl⟩ : ∃ a0 a1 a2 a3 a4 a5 a6, c = [a0, a1, a2, a3, a4, a5, a6] := by
    clear hf h
    match c, hl with
    | [a0, a1, a2, a3, a4, a5, a6], _ => exact ⟨a0, a1, a2, a3, a4, a5, a6, rfl⟩
  simp only [List.mem_cons, List.not_mem_nil, or_false, forall_eq_or_imp, forall_eq, cells_gint, cells_gstr, cells_Cnn, cells_Sgm, List.drop_succ_cons, List.drop_zero, List.take_succ_cons, List.take_zero] at hf
  obtain ⟨h0, h1, h2, h3, h4, h5, h6⟩ := hf
  obtain ⟨s7, e7, z7⟩ := h0.toStr Tryd.underlying9
  obtain ⟨s8, e8, z8⟩ := h1.toInt Tryd.underlying3
  obtain ⟨s9, e9, z9⟩ := h2.toInt Tryd.underlying3
  obtain ⟨s10, e10, z10⟩ := h3.toStr Tryd.underlying9
  obtain ⟨s11, e11, z11⟩ := h4.toStr Tryd.underlying9
  obtain ⟨s12, e12, z12⟩ := h5.toInt Tryd.underlying3
  obtain ⟨s13, e13, z13⟩ := h6.toInt Tryd.underlying3
  simp only [List.cons.injEq, and_true] at e7 e8 e9 e10 e11 e12 e13
  subst e7 e8 e9 e10 e11 e12 e13
  refine ⟨⟨s7, s8, s9, s10, s11, s12, s13⟩, ⟨rfl, fun j c c' hc hc' => ?_⟩, len_bd z7, int_bd z8, int_bd z9, len_bd z10, len_bd z11, int_bd z12, int_bd z13, trivial⟩
  match j, hc, hc' with
  | 0, hc, hc' => cases hc; cases hc'; exact ⟨rfl, fun _ _ _ h => h⟩
  | 1, hc, hc' => cases hc; cases hc'; exact ⟨rfl, fun _ _ _ h => h⟩
  | 2, hc, hc' => cases hc; cases hc'; exact ⟨rfl, fun _ _ _ h => h⟩
  | 3, hc, hc' => cases hc; cases hc'; exact ⟨rfl, fun _ _ _ h => h⟩
  | 4, hc, hc' => cases hc; cases hc'; exact ⟨rfl, fun _ _ _ h => h⟩
  | 5, hc, hc' => cases hc; cases hc'; exact ⟨rfl, fun _ _ _ h => h⟩
  | 6, hc, hc' => cases hc; cases hc'; exact ⟨rfl, fun _ _ _ h => h⟩
  | j + 7, hc, hc' => simp at hc
end Go.Proofs.YtgomkmamgflbeaaDoor
