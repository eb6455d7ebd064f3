/-
  What the listed variables give the walks of layer 3, and the world in which they lie as the program's text lays them.
-/
import Derived.Test.YtfmdnmkojeolkaaDoorCalLaws
import Derived.Test.YtfmdnmkojeolkaaDoorRows
import Derived.ProofKit
import Derived.LaidMore
import Derived.OpenShut
import Derived.ShutString
import Derived.Stop.Joined
import Derived.Lib.LaidTab
namespace Go.Proofs.YtfmdnmkojeolkaaDoor
open Go.ChangeShapes Go.WideShapes Go.ChangeAt Go.RowKit

theorem own : ownKnob Tryd.prog.godebug = none := by kernel_rfl
theorem gLen : Tryd.prog.globalNamed "airline/calendar.lengths" = some 0 := by kernel_rfl
theorem tLen : (Tryd.prog.globals[0]?).map (·.type) = some 72 := by kernel_rfl
theorem cellsInt : Tryd.prog.cellsOf 3 = 1 := by kernel_rfl
theorem cellsLen : Tryd.prog.cellsOf 72 = 12 := by kernel_rfl
def lenLaid : List (String × DataW Unit) := [("airline/calendar.lengths", Rows.laid_airline_calendar_lengths)]

theorem hasLen_of {W : World} (h : laidMetH Tryd.prog lenLaid W) : HasLen W := by
  rw [MakeChecks.laidMetH_plain _ _ _ (by kernel_rfl)] at h
  have hT := Lib.tabIs_of_head (zs := [31, 28, 31, 30, 31, 30, 31, 31, 30, 31, 30, 31]) gLen tLen Tryd.underlying72 Tryd.underlying3 cellsInt cellsLen h
  intro i hi
  rw [hT.cell gLen i (by simpa using hi)]
  match i, hi with
  | 0, _ => rfl
  | 1, _ => rfl
  | 2, _ => rfl
  | 3, _ => rfl
  | 4, _ => rfl
  | 5, _ => rfl
  | 6, _ => rfl
  | 7, _ => rfl
  | 8, _ => rfl
  | 9, _ => rfl
  | 10, _ => rfl
  | 11, _ => rfl
  | i + 12, hi => omega

/-- The heap of the program's own initialisers meets the condition. -/
theorem len_door (os : Os) (args : Array Value) : laidMetH Tryd.prog lenLaid ((World.doorLaid Tryd.prog 400 os).forCall (fun _ _ => 0) ⟨#[], args, []⟩).memory :=
  laidMetH_of_parts3 (fuel := 8) (laidMet_of_run' 8 (by kernel_rfl) (by kernel_rfl)) (by kernel_rfl) (by kernel_rfl)
end Go.Proofs.YtfmdnmkojeolkaaDoor
