/-
  The example of chapter 18; parameters of its laws as data.
-/
import Derived.Test.YtlamgjbngblefaaGreatDoorSkJ
import Derived.Test.YtlamgjbngblefaaGreatDoorSkH
namespace Go.Proofs.YtlamgjbngblefaaGreatDoor.Dm
open Go Gw
theorem awake18_t : isT (dcall E 100 14 [] []) = true := by kernel_rfl
theorem awake18_d : ∃ T, dcall E 100 14 [] [] = some (.bool true, T) := isT_spec awake18_t
end Go.Proofs.YtlamgjbngblefaaGreatDoor.Dm
namespace Go.Proofs.YtlamgjbngblefaaGreatDoor
open Go Go.ChangeShapes Go.WideShapes Go.ChangeAt Go.RowKit Dm
theorem Crv_of {c : List D} (h : TC Tryz.prog 100 c) : ∃ r : Crv, CellR c r.enc ∧ True := by
  obtain ⟨d, rfl⟩ : ∃ d, c = [d] := by
    rcases h.toSlice Tryz.underlying100 with h | ⟨es, x, h, -, -⟩
    · exact ⟨_, h⟩
    · exact ⟨_, h⟩
  obtain ⟨l, x, -, hv⟩ := slices_rel (enc := encZ) (n := 1) (Q := fun _ => True) Tryz.underlying100 cells_gint (fun c h => by
    obtain ⟨z, e, -⟩ := h.toInt Tryz.underlying3
    subst e
    refine ⟨z, ⟨rfl, fun j c c' hc hc' => ?_⟩, trivial⟩
    match j, hc, hc' with
    | 0, hc, hc' => cases hc; cases hc'; exact ⟨rfl, fun _ _ _ h => h⟩
    | j + 1, hc, hc' => simp at hc) h
  refine ⟨⟨.sl 1 (l.map encZ) x, l, .inr ⟨x, rfl⟩⟩, ⟨rfl, fun j c c' hc hc' => ?_⟩, trivial⟩
  match j, hc, hc' with
  | 0, hc, hc' => cases hc; cases hc'; exact ⟨rfl, hv⟩
  | j + 1, hc, hc' => simp at hc
theorem U8_of {c : List D} (h : TC Tryz.prog 5 c) : ∃ r : Nat, CellR c (encU r) ∧ r ≤ 255 := by
  obtain ⟨z, e, hw⟩ := h.toInt Tryz.underlying5
  have hb := u8_bd hw
  obtain ⟨k, rfl⟩ : ∃ k : Nat, z = k := ⟨z.toNat, by omega⟩
  subst e
  refine ⟨k, ⟨rfl, fun j c c' hc hc' => ?_⟩, by omega⟩
  match j, hc, hc' with
  | 0, hc, hc' => cases hc; cases hc'; exact ⟨rfl, fun _ _ _ h => h⟩
  | j + 1, hc, hc' => simp at hc
theorem cells_slI : Tryz.prog.cellsOf 100 = 1 := by kernel_rfl
theorem agg_u8s : aggT Tryz.prog 24 = some false := by kernel_rfl
theorem agg_crvs : aggT Tryz.prog 45 = some false := by kernel_rfl
end Go.Proofs.YtlamgjbngblefaaGreatDoor
