/-
  The bound of the second form, as the bulk of data.
-/
import Derived.Test.YthkbiiammhekfaaGreatDoorRows
import Derived.Test.YthkbiiammhekfaaGreatDoorTod
set_option linter.unusedSimpArgs false
set_option linter.unusedVariables false
namespace Go.Proofs.YthkbiiammhekfaaGreatDoor.Dm
open Go

mutual
theorem bulkW_le {H : Type} : ∀ d : DataW H, bulkW d ≤ Rows.uptoBulk d
  | .lit l => by cases l <;> simp [bulkW, Rows.uptoBulk]
  | .nil => by simp [bulkW, Rows.uptoBulk]
  | .ptr d => by simp [bulkW, Rows.uptoBulk]
  | .slice es sp => by
    have := bulkWs_le es
    simp only [bulkW, Rows.uptoBulk]; omega
  | .agg ps => by
    have := bulkWs_le ps
    simp only [bulkW, Rows.uptoBulk]; omega
  | .iface t d => by simp [bulkW, Rows.uptoBulk]
  | .map es => by simp [bulkW, Rows.uptoBulk]
  | .held h => by simp [bulkW, Rows.uptoBulk]
theorem bulkWs_le {H : Type} : ∀ l : List (DataW H), bulkWs l ≤ Rows.uptoBulkAll l
  | [] => Nat.le_refl _
  | d :: l => by
    have h1 := bulkW_le d
    have h2 := bulkWs_le l
    simp only [bulkWs, Rows.uptoBulkAll]; omega
end
theorem bulk_small {H : Type} {ds : List (DataW H)} (h : Rows.uptoSmall H (ds ++ []) = true) : bulkWs ds ≤ 1048576 := by
  rw [List.append_nil] at h
  exact Nat.le_trans (bulkWs_le ds) (of_decide_eq_true h)
end Go.Proofs.YthkbiiammhekfaaGreatDoor.Dm
