/-
  The machine at this seat's program is sound: with the functions that are known by laws of their own.
-/
import Derived.Test.YthkbiiammhekfaaGreatDoorEnv
import Derived.Test.YthkbiiammhekfaaGreatDoorWlP
set_option linter.unusedSimpArgs false
set_option linter.unusedVariables false
namespace Go.Proofs.YthkbiiammhekfaaGreatDoor.Dm
open Go

theorem prim1_ok {f : FuncId} {p : List D → List Ob → Option (D × List Ob)} (hp : prim1 f = some p) {args : List D} {S S' : List Ob} {d : D} (hd : p args S = some (d, S')) {W : World} {C : Cx} {vargs : Array Value} (hs : SR W C S) (hP : C.P = E0.P) (hG : GR W C E0.G) (hv : VRs W C args vargs.toList) :
    (∃ fn, E0.P.funcs[f]? = some fn ∧ fn.body.isSome = true) ∧
    Calls E0.P f vargs W fun e W' => ∃ v C', e = .returned v ∧ VR W' C' d v ∧ SR W' C' S' ∧ Fr W C S W' C' S' := by
  unfold prim1 at hp
  first
  | (cases hp; done)
  | skip
  split at hp
  · rename_i he
    subst he
    have h' := (Option.some.inj hp).symm
    subst h'
    exact Wl.ins_ok hd hs hP hG hv
  · cases hp
theorem envOk1 : EnvOk E1 where
  mixed := envOk0.mixed
  names := envOk0.names
  keys := envOk0.keys
  lin f fn c hf hb hm := (linC_prim prim1 (fun _ => none) c).trans (envOk0.lin f fn c hf hb hm)
  globals := envOk0.globals
  exts := envOk0.exts
  prims f p hp args S d S' hd W C vargs hs hP hG hv := prim1_ok hp hd hs hP hG hv
theorem prims_true : (primFs.all fun f => isT0 (dcallX E1 200 f [] [])) = true := by kernel_rfl
theorem envOk : EnvOk E where
  mixed := envOk0.mixed
  names := envOk0.names
  keys := envOk0.keys
  lin f fn c hf hb hm := (linC_prim primOf (fun _ => none) c).trans (envOk0.lin f fn c hf hb hm)
  globals := envOk0.globals
  exts := envOk0.exts
  prims f p hp args S d S' hd W C vargs hs hP hG hv := by
    change primOf f = some p at hp
    unfold primOf at hp
    split at hp
    · rename_i hm
      obtain ⟨T, hT⟩ := isT0_spec (List.all_eq_true.1 prims_true f (List.contains_iff_mem.1 hm))
      have h' := (Option.some.inj hp).symm
      subst h'
      cases args with
      | nil =>
        cases hd
        exact prim_closed envOk1 hT hs hP hG hv
      | cons a l => cases hd
    exact prim1_ok hp hd hs hP hG hv
end Go.Proofs.YthkbiiammhekfaaGreatDoor.Dm
