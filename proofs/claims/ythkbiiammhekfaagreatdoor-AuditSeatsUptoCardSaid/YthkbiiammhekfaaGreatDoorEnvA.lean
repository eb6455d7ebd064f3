/-
  The machine of XDm at this seat's program: all regions are checked.
-/
import Derived.Test.YthkbiiammhekfaaGreatDoorEnvH
set_option linter.unusedSimpArgs false
set_option linter.unusedVariables false
namespace Go.Proofs.YthkbiiammhekfaaGreatDoor.Dm
open Go

theorem lin_light : (List.range Tryz.prog.funcs.size).all (fun f => heavyFs.contains f || linF E0 f) = true := by kernel_rfl
theorem lin_all : (List.range Tryz.prog.funcs.size).all (linF E0) = true := by
  rw [List.all_eq_true]
  intro f hf
  have h := List.all_eq_true.1 lin_light f hf
  rw [Bool.or_eq_true] at h
  rcases h with h | h
  · exact List.all_eq_true.1 lin_heavy f (List.contains_iff_mem.1 h)
  · exact h
theorem name_all : (List.range Tryz.prog.funcs.size).all (nameF E0) = true := by kernel_rfl
end Go.Proofs.YthkbiiammhekfaaGreatDoor.Dm
