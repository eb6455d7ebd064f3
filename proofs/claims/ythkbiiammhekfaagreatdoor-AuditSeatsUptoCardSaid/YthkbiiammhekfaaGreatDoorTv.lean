/-
  What a datum of a plain type is, type by type.
-/
import Derived.Test.YthkbiiammhekfaaGreatDoorTod
set_option linter.unusedSimpArgs false
set_option linter.unusedVariables false
namespace Go.Proofs.YthkbiiammhekfaaGreatDoor.Dm
open Go Go.RowKit

section
variable {P : Program} {t e : TypeId} {k : IntKind} {d : D} {cs : List D}
theorem TC.toInt (ht : P.underlying t = some (.int k)) (h : TC P t cs) : ∃ n, cs = [.int k n] ∧ (Lit.int k n).wf = true := by
  cases h with
  | int h hw => rw [ht] at h; cases h; exact ⟨_, rfl, hw⟩
  | str h => rw [ht] at h; cases h
  | bool h => rw [ht] at h; cases h
  | nils h => rw [ht] at h; cases h
  | sl h => rw [ht] at h; cases h
  | struct h => rw [ht] at h; cases h
  | array h => rw [ht] at h; cases h
theorem TC.toStr (ht : P.underlying t = some .string) (h : TC P t cs) : ∃ s : ByteArray, cs = [.str s] ∧ s.size ≤ maxLen := by
  cases h with
  | int h hw => rw [ht] at h; cases h
  | str h hs => exact ⟨_, rfl, hs⟩
  | bool h => rw [ht] at h; cases h
  | nils h => rw [ht] at h; cases h
  | sl h => rw [ht] at h; cases h
  | struct h => rw [ht] at h; cases h
  | array h => rw [ht] at h; cases h
theorem TC.toBool (ht : P.underlying t = some .bool) (h : TC P t cs) : ∃ b, cs = [.bool b] := by
  cases h with
  | int h hw => rw [ht] at h; cases h
  | str h hs => rw [ht] at h; cases h
  | bool h b => exact ⟨_, rfl⟩
  | nils h => rw [ht] at h; cases h
  | sl h => rw [ht] at h; cases h
  | struct h => rw [ht] at h; cases h
  | array h => rw [ht] at h; cases h
theorem TC.toSlice (ht : P.underlying t = some (.slice e)) (h : TC P t cs) : cs = [.nils] ∨ ∃ es x, cs = [.sl (P.cellsOf e) es x] ∧ es.length ≤ maxLen ∧ ∀ (j : Nat) (c : List D), es[j]? = some c → TC P e c := by
  cases h with
  | int h hw => rw [ht] at h; cases h
  | str h hs => rw [ht] at h; cases h
  | bool h => rw [ht] at h; cases h
  | nils h => exact .inl rfl
  | sl h hl hes => rw [ht] at h; cases h; exact .inr ⟨_, _, rfl, hl, hes⟩
  | struct h => rw [ht] at h; cases h
  | array h => rw [ht] at h; cases h
theorem TC.toStruct {fs : Array Field} (ht : P.underlying t = some (.struct fs)) (h : TC P t cs) : cs.length = P.cellsOf t ∧ ∀ f ∈ fs.toList, TC P f.type ((cs.drop f.offset).take (P.cellsOf f.type)) := by
  cases h with
  | int h hw => rw [ht] at h; cases h
  | str h hs => rw [ht] at h; cases h
  | bool h => rw [ht] at h; cases h
  | nils h => rw [ht] at h; cases h
  | sl h => rw [ht] at h; cases h
  | struct h hl hf => rw [ht] at h; cases h; exact ⟨hl, hf⟩
  | array h => rw [ht] at h; cases h
theorem TC.toArray {n : Nat} (ht : P.underlying t = some (.array n e)) (h : TC P t cs) : cs.length = P.cellsOf t ∧ ∀ i, i < n → TC P e ((cs.drop (i * P.cellsOf e)).take (P.cellsOf e)) := by
  cases h with
  | int h hw => rw [ht] at h; cases h
  | str h hs => rw [ht] at h; cases h
  | bool h => rw [ht] at h; cases h
  | nils h => rw [ht] at h; cases h
  | sl h => rw [ht] at h; cases h
  | struct h => rw [ht] at h; cases h
  | array h hl hf => rw [ht] at h; cases h; exact ⟨hl, hf⟩
/-- The elements of a list that was handed in: a nil list has none. -/
def lst : D → List (List D)
  | .sl _ es _ => es
  | _ => []
theorem TV.one (hg : aggT P t = some false) (h : TV P t d) : TC P t [d] := by
  rcases h with ⟨h, -⟩ | ⟨-, h⟩
  · rw [hg] at h; cases h
  · exact h
theorem TV.agg (hg : aggT P t = some true) (h : TV P t d) : ∃ ds, d = .agg ds ∧ TC P t ds := by
  rcases h with ⟨-, h⟩ | ⟨h, -⟩
  · exact h
  · rw [hg] at h; cases h
theorem TV.toInt (ht : P.underlying t = some (.int k)) (h : TV P t d) : ∃ n, d = .int k n ∧ (Lit.int k n).wf = true := by
  obtain ⟨n, hn, hw⟩ := (h.one (by rw [aggT, ht]; rfl)).toInt ht
  exact ⟨n, by simpa using hn, hw⟩
theorem TV.toStr (ht : P.underlying t = some .string) (h : TV P t d) : ∃ s : ByteArray, d = .str s ∧ s.size ≤ maxLen := by
  obtain ⟨n, hn, hw⟩ := (h.one (by rw [aggT, ht]; rfl)).toStr ht
  exact ⟨n, by simpa using hn, hw⟩
theorem TV.toBool (ht : P.underlying t = some .bool) (h : TV P t d) : ∃ b, d = .bool b := by
  obtain ⟨n, hn⟩ := (h.one (by rw [aggT, ht]; rfl)).toBool ht
  exact ⟨n, by simpa using hn⟩
theorem TV.toSlice (ht : P.underlying t = some (.slice e)) (h : TV P t d) : d = .nils ∨ ∃ es x, d = .sl (P.cellsOf e) es x ∧ es.length ≤ maxLen ∧ ∀ (j : Nat) (c : List D), es[j]? = some c → TC P e c := by
  rcases (h.one (by rw [aggT, ht]; rfl)).toSlice ht with h | ⟨es, x, h, hl, hes⟩
  · exact .inl (by simpa using h)
  · exact .inr ⟨es, x, by simpa using h, hl, hes⟩
theorem TV.toStruct {fs : Array Field} (ht : P.underlying t = some (.struct fs)) (h : TV P t d) : ∃ cs, d = .agg cs ∧ cs.length = P.cellsOf t ∧ ∀ f ∈ fs.toList, TC P f.type ((cs.drop f.offset).take (P.cellsOf f.type)) := by
  obtain ⟨ds, hd, hc⟩ := h.agg (by rw [aggT, ht]; rfl)
  exact ⟨ds, hd, hc.toStruct ht⟩
theorem TVs.inv {ts : List TypeId} {xs : List D} (h : TVs P (t :: ts) xs) : ∃ d ds, xs = d :: ds ∧ TV P t d ∧ TVs P ts ds := by
  cases h with
  | cons h hs => exact ⟨_, _, rfl, h, hs⟩
theorem TVs.inv0 {xs : List D} (h : TVs P [] xs) : xs = [] := by
  cases h; rfl
end
end Go.Proofs.YthkbiiammhekfaaGreatDoor.Dm
