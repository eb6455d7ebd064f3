/-
  What plain data of places are.
-/
import Derived.Test.YtgomkmamgflbeaaDoorCoY
import Derived.Test.YtgomkmamgflbeaaDoorPlT
namespace Go.Proofs.YtgomkmamgflbeaaDoor
open Go Dm Go.RowKit

theorem cells_Shf : Tryd.prog.cellsOf 106 = 2 := by kernel_rfl
theorem cells_Apt : Tryd.prog.cellsOf 53 = 5 := by kernel_rfl
theorem cells_Zone : Tryd.prog.cellsOf 51 = 2 := by kernel_rfl
theorem cells_slShift : Tryd.prog.cellsOf 49 = 1 := by kernel_rfl
theorem cells_Dst : Tryd.prog.cellsOf 93 = 3 := by kernel_rfl
theorem cells_Plc : Tryd.prog.cellsOf 36 = 2 := by kernel_rfl
theorem cells_slAirport : Tryd.prog.cellsOf 33 = 1 := by kernel_rfl
theorem cells_slDistance : Tryd.prog.cellsOf 34 = 1 := by kernel_rfl
set_option maxHeartbeats 1000000 in
set_option maxRecDepth 100000 in
theorem Shf_of {c : List D} (h : TC Tryd.prog 106 c) : ∃ r : Shf, CellR c r.enc ∧ r.Ok := by
  obtain ⟨hl, hf⟩ := h.toStruct Tryd.underlying106
  rw [cells_Shf] at hl
  obtain ⟨a0, a1, rfl⟩ : ∃ a0 a1, c = [a0, a1] := by
    clear hf h
    match c, hl with
    | [a0, a1], _ => exact ⟨a0, a1, rfl⟩
  simp only [List.mem_cons, List.not_mem_nil, or_false, forall_eq_or_imp, forall_eq, cells_gint, cells_gstr, cells_Shf, cells_Apt, cells_Zone, cells_slShift, cells_Dst, cells_Plc, cells_slAirport, cells_slDistance, List.drop_succ_cons, List.drop_zero, List.take_succ_cons, List.take_zero] at hf
  obtain ⟨h0, h1⟩ := hf
  obtain ⟨s2, e2, z2⟩ := h0.toInt Tryd.underlying3
  obtain ⟨s3, e3, z3⟩ := h1.toInt Tryd.underlying3
  simp only [List.cons.injEq, and_true] at e2 e3
  subst e2 e3
  refine ⟨⟨s2, s3⟩, ⟨rfl, fun j c c' hc hc' => ?_⟩, int_bd z2, int_bd z3, trivial⟩
  match j, hc, hc' with
  | 0, hc, hc' => cases hc; cases hc'; exact ⟨rfl, fun _ _ _ h => h⟩
  | 1, hc, hc' => cases hc; cases hc'; exact ⟨rfl, fun _ _ _ h => h⟩
  | j + 2, hc, hc' => simp at hc
set_option maxHeartbeats 1000000 in
set_option maxRecDepth 100000 in
theorem Apt_of {c : List D} (h : TC Tryd.prog 53 c) : ∃ r : Apt, CellR c r.enc ∧ r.Ok := by
  obtain ⟨hl, hf⟩ := h.toStruct Tryd.underlying53
  rw [cells_Apt] at hl
  obtain ⟨a0, a1, a2, a3, a4, rfl⟩ : ∃ a0 a1 a2 a3 a4, c = [a0, a1, a2, a3, a4] := by
    clear hf h
    match c, hl with
    | [a0, a1, a2, a3, a4], _ => exact ⟨a0, a1, a2, a3, a4, rfl⟩
  simp only [List.mem_cons, List.not_mem_nil, or_false, forall_eq_or_imp, forall_eq, cells_gint, cells_gstr, cells_Shf, cells_Apt, cells_Zone, cells_slShift, cells_Dst, cells_Plc, cells_slAirport, cells_slDistance, List.drop_succ_cons, List.drop_zero, List.take_succ_cons, List.take_zero] at hf
  obtain ⟨h0, h1, h2, h3⟩ := hf
  obtain ⟨s4, e4, z4⟩ := h0.toStr Tryd.underlying9
  obtain ⟨s5, e5, z5⟩ := h1.toStr Tryd.underlying9
  obtain ⟨s6, e6, z6⟩ := h2.toStr Tryd.underlying9
  obtain ⟨-, g7⟩ := h3.toStruct Tryd.underlying51
  simp only [List.mem_cons, List.not_mem_nil, or_false, forall_eq_or_imp, forall_eq, cells_gint, cells_gstr, cells_Shf, cells_Apt, cells_Zone, cells_slShift, cells_Dst, cells_Plc, cells_slAirport, cells_slDistance, List.drop_succ_cons, List.drop_zero, List.take_succ_cons, List.take_zero] at g7
  obtain ⟨h8, h9⟩ := g7
  obtain ⟨s10, e10, z10⟩ := h8.toInt Tryd.underlying3
  obtain ⟨l11, x11, z11, v11⟩ := slices_rel (enc := Shf.enc) (n := 2) Tryd.underlying49 cells_Shf (fun c h => Shf_of h) h9
  simp only [List.cons.injEq, and_true] at e4 e5 e6 e10
  subst e4 e5 e6 e10
  refine ⟨⟨s4, s5, s6, s10, l11, x11⟩, ⟨rfl, fun j c c' hc hc' => ?_⟩, len_bd z4, len_bd z5, len_bd z6, int_bd z10, z11, trivial⟩
  match j, hc, hc' with
  | 0, hc, hc' => cases hc; cases hc'; exact ⟨rfl, fun _ _ _ h => h⟩
  | 1, hc, hc' => cases hc; cases hc'; exact ⟨rfl, fun _ _ _ h => h⟩
  | 2, hc, hc' => cases hc; cases hc'; exact ⟨rfl, fun _ _ _ h => h⟩
  | 3, hc, hc' => cases hc; cases hc'; exact ⟨rfl, fun _ _ _ h => h⟩
  | 4, hc, hc' => cases hc; cases hc'; exact ⟨rfl, v11⟩
  | j + 5, hc, hc' => simp at hc
set_option maxHeartbeats 1000000 in
set_option maxRecDepth 100000 in
theorem Dst_of {c : List D} (h : TC Tryd.prog 93 c) : ∃ r : Dst, CellR c r.enc ∧ r.Ok := by
  obtain ⟨hl, hf⟩ := h.toStruct Tryd.underlying93
  rw [cells_Dst] at hl
  obtain ⟨a0, a1, a2, rfl⟩ : ∃ a0 a1 a2, c = [a0, a1, a2] := by
    clear hf h
    match c, hl with
    | [a0, a1, a2], _ => exact ⟨a0, a1, a2, rfl⟩
  simp only [List.mem_cons, List.not_mem_nil, or_false, forall_eq_or_imp, forall_eq, cells_gint, cells_gstr, cells_Shf, cells_Apt, cells_Zone, cells_slShift, cells_Dst, cells_Plc, cells_slAirport, cells_slDistance, List.drop_succ_cons, List.drop_zero, List.take_succ_cons, List.take_zero] at hf
  obtain ⟨h0, h1, h2⟩ := hf
  obtain ⟨s3, e3, z3⟩ := h0.toStr Tryd.underlying9
  obtain ⟨s4, e4, z4⟩ := h1.toStr Tryd.underlying9
  obtain ⟨s5, e5, z5⟩ := h2.toInt Tryd.underlying3
  simp only [List.cons.injEq, and_true] at e3 e4 e5
  subst e3 e4 e5
  refine ⟨⟨s3, s4, s5⟩, ⟨rfl, fun j c c' hc hc' => ?_⟩, len_bd z3, len_bd z4, int_bd z5, trivial⟩
  match j, hc, hc' with
  | 0, hc, hc' => cases hc; cases hc'; exact ⟨rfl, fun _ _ _ h => h⟩
  | 1, hc, hc' => cases hc; cases hc'; exact ⟨rfl, fun _ _ _ h => h⟩
  | 2, hc, hc' => cases hc; cases hc'; exact ⟨rfl, fun _ _ _ h => h⟩
  | j + 3, hc, hc' => simp at hc
set_option maxHeartbeats 1000000 in
set_option maxRecDepth 100000 in
theorem Plc_of {c : List D} (h : TC Tryd.prog 36 c) : ∃ r : Plc, CellR c r.enc ∧ r.Ok := by
  obtain ⟨hl, hf⟩ := h.toStruct Tryd.underlying36
  rw [cells_Plc] at hl
  obtain ⟨a0, a1, rfl⟩ : ∃ a0 a1, c = [a0, a1] := by
    clear hf h
    match c, hl with
    | [a0, a1], _ => exact ⟨a0, a1, rfl⟩
  simp only [List.mem_cons, List.not_mem_nil, or_false, forall_eq_or_imp, forall_eq, cells_gint, cells_gstr, cells_Shf, cells_Apt, cells_Zone, cells_slShift, cells_Dst, cells_Plc, cells_slAirport, cells_slDistance, List.drop_succ_cons, List.drop_zero, List.take_succ_cons, List.take_zero] at hf
  obtain ⟨h0, h1⟩ := hf
  obtain ⟨l2, x2, z2, v2⟩ := slices_rel (enc := Apt.enc) (n := 5) Tryd.underlying33 cells_Apt (fun c h => Apt_of h) h0
  obtain ⟨l3, x3, z3, v3⟩ := slices_rel (enc := Dst.enc) (n := 3) Tryd.underlying34 cells_Dst (fun c h => Dst_of h) h1
  refine ⟨⟨l2, x2, l3, x3⟩, ⟨rfl, fun j c c' hc hc' => ?_⟩, z2, z3, trivial⟩
  match j, hc, hc' with
  | 0, hc, hc' => cases hc; cases hc'; exact ⟨rfl, v2⟩
  | 1, hc, hc' => cases hc; cases hc'; exact ⟨rfl, v3⟩
  | j + 2, hc, hc' => simp at hc
end Go.Proofs.YtgomkmamgflbeaaDoor
