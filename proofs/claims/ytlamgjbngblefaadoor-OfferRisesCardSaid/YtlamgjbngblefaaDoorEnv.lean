/-
  The machine of XDm at this seat's program is sound.
-/
import Derived.Test.YtlamgjbngblefaaDoorEnvA
namespace Go.Proofs.YtlamgjbngblefaaDoor.Dm
open Go

theorem envOk : EnvOk E where
  mixed := by kernel_rfl
  names f fn hf := by
    have hlt : f < Tryd.prog.funcs.size := (Array.getElem?_eq_some_iff.1 hf).1
    have := List.all_eq_true.1 name_all f (List.mem_range.2 hlt)
    unfold nameF at this
    rw [show E.P.funcs[f]? = some fn from hf] at this
    simpa using this
  keys kt h := by
    have hm : kt ∈ keyTs := by simpa [E] using h
    simp only [keyTs, List.mem_cons, List.not_mem_nil, or_false] at hm
    first
    | (rcases hm with rfl | rfl
       · exact Maps.string_keyed Tryd.underlying9
       · exact Maps.Keyed.of_law (deep_law_laid (m := 20) (by kernel_rfl) (by decide) (Nat.le_of_ble_eq_true (by kernel_rfl)) (by kernel_rfl) (by kernel_rfl)))
    | (subst hm; exact Maps.string_keyed Tryd.underlying9)
    | (subst hm; exact Maps.Keyed.of_law (deep_law_laid (m := 20) (by kernel_rfl) (by decide) (Nat.le_of_ble_eq_true (by kernel_rfl)) (by kernel_rfl) (by kernel_rfl)))
    | exact hm.elim
  lin f fn c hf hb hm := by
    have hlt : f < Tryd.prog.funcs.size := (Array.getElem?_eq_some_iff.1 hf).1
    have := List.all_eq_true.1 lin_all f (List.mem_range.2 hlt)
    unfold linF at this
    rw [show E.P.funcs[f]? = some fn from hf] at this
    dsimp only at this
    rw [hb] at this
    simpa [hm] using this
  globals g cs h := by cases h
  prims f p h := by cases h
  exts g p h := by
    change extOf g = some p at h
    unfold extOf at h
    split at h
    · rename_i hm
      have h' := (Option.some.inj h).symm
      clear h
      subst h'
      first
      | (exfalso; revert hm; simp [cntFs]; done)
      | skip
    split at h
    · rename_i hm
      have h' := (Option.some.inj h).symm
      clear h
      subst h'
      first
      | (exfalso; revert hm; simp [idxFs]; done)
      | skip
    · split at h
      · rename_i hm
        have h' := (Option.some.inj h).symm
        clear h
        subst h'
        first
        | (exfalso; revert hm; simp [clnFs]; done)
        | skip
      · split at h
        · rename_i q hq
          have h' := (Option.some.inj h).symm
          clear h
          subst h'
          have hm := List.mem_of_find?_eq_some hq
          have he : q.1 = g := by simpa using List.find?_some hq
          subst he
          first
          | (exfalso; revert hm; simp [ovlFs]; done)
          | skip
        · cases h
end Go.Proofs.YtlamgjbngblefaaDoor.Dm
