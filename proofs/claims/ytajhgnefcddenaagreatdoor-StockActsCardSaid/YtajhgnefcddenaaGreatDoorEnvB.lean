/-
  The machine at this seat's program is sound: with the functions that are known by laws of their own.
-/
import Derived.Test.YtajhgnefcddenaaGreatDoorEnvL
import Derived.Test.YtajhgnefcddenaaGreatDoorLgF
namespace Go.Proofs.YtajhgnefcddenaaGreatDoor.Dm
open Go

theorem prims_true : (primFs.all fun f => isT0 (dcallX E0 100 f [] [])) = true := by kernel_rfl
theorem envOk : EnvOk E where
  mixed := envOk0.mixed
  names := envOk0.names
  keys := envOk0.keys
  lin f fn c hf hb hm := (linC_prim primOf (fun _ => none) c).trans (envOk0.lin f fn c hf hb hm)
  globals := envOk0.globals
  exts := envOk0.exts
  prims f p hp args S d S' hd W C vargs hs hP hG hv := by
    change primOf f = some p at hp
    unfold primOf at hp
    split at hp
    · rename_i hm
      obtain ⟨T, hT⟩ := isT0_spec (List.all_eq_true.1 prims_true f (List.contains_iff_mem.1 hm))
      have h' := (Option.some.inj hp).symm
      subst h'
      cases args with
      | nil =>
        cases hd
        exact prim_closed envOk0 hT hs hP hG hv
      | cons a l => cases hd
    · first
      | (cases hp; done)
      | skip
      split at hp
      · rename_i he
        subst he
        have h' := (Option.some.inj hp).symm
        subst h'
        exact Lg.legs_ok hd hs hP hG hv
      · cases hp
end Go.Proofs.YtajhgnefcddenaaGreatDoor.Dm
