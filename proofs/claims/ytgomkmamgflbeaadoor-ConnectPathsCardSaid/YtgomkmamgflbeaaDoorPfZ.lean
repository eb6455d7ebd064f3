/-
  The walk of ConnectFollows.
-/
import Derived.Test.YtgomkmamgflbeaaDoorCoW
import Derived.Test.YtgomkmamgflbeaaDoorPfA
namespace Go.Proofs.YtgomkmamgflbeaaDoor
open Go Dm Go.RowKit
set_option linter.unusedSimpArgs false

namespace Dm
structure Cas where
  l : List Cnn
  lx : Bool
  sg : List Sgm
  sgx : Bool
def Cas.enc (r : Cas) : List D := [.sl 4 (r.l.map Cnn.enc) r.lx, .sl 7 (r.sg.map Sgm.enc) r.sgx]
/-- What is said of data of this type. -/
def Cas.Ok (r : Cas) : Prop := ((∀ e ∈ r.l, e.Ok) ∧ r.l.length ≤ 9223372036854775807) ∧ ((∀ e ∈ r.sg, e.Ok) ∧ r.sg.length ≤ 9223372036854775807) ∧ True
end Dm
theorem cells_Cas : Tryd.prog.cellsOf 42 = 2 := by kernel_rfl
theorem cells_slConnect : Tryd.prog.cellsOf 22 = 1 := by kernel_rfl
theorem cells_slSeg : Tryd.prog.cellsOf 26 = 1 := by kernel_rfl
set_option maxHeartbeats 1000000 in
set_option maxRecDepth 100000 in
theorem Cas_of {c : List D} (h : TC Tryd.prog 42 c) : ∃ r : Cas, CellR c r.enc ∧ r.Ok := by
  obtain ⟨hl, hf⟩ := h.toStruct Tryd.underlying42
  rw [cells_Cas] at hl
  obtain ⟨a0, a1, rfl⟩ : ∃ a0 a1, c = [a0, a1] := by
    clear hf h
    match c, hl with
    | [a0, a1], _ => exact ⟨a0, a1, rfl⟩
  simp only [List.mem_cons, List.not_mem_nil, or_false, forall_eq_or_imp, forall_eq, cells_gint, cells_gstr, cells_Cas, cells_slConnect, cells_slSeg, cells_Cnn, cells_Sgm, List.drop_succ_cons, List.drop_zero, List.take_succ_cons, List.take_zero] at hf
  obtain ⟨h0, h1⟩ := hf
  obtain ⟨l2, x2, z2, v2⟩ := slices_rel (enc := Cnn.enc) (n := 4) Tryd.underlying22 cells_Cnn (fun c h => Cnn_of h) h0
  obtain ⟨l3, x3, z3, v3⟩ := slices_rel (enc := Sgm.enc) (n := 7) Tryd.underlying26 cells_Sgm (fun c h => Sgm_of h) h1
  refine ⟨⟨l2, x2, l3, x3⟩, ⟨rfl, fun j c c' hc hc' => ?_⟩, z2, z3, trivial⟩
  match j, hc, hc' with
  | 0, hc, hc' => cases hc; cases hc'; exact ⟨rfl, v2⟩
  | 1, hc, hc' => cases hc; cases hc'; exact ⟨rfl, v3⟩
  | j + 2, hc, hc' => simp at hc
theorem agg_cas : aggT Tryd.prog 42 = some true := by kernel_rfl
end Go.Proofs.YtgomkmamgflbeaaDoor
