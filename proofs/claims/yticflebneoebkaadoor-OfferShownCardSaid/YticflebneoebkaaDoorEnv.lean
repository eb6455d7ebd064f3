/-
  The machine of XDm at this seat's program.
-/
import Derived.Test.YticflebneoebkaaDoorDmH
import Derived.Test.YticflebneoebkaaDoorProg
import Derived.KernelRfl
import Derived.DeepKeys4
namespace Go.Proofs.YticflebneoebkaaDoor.Dm
open Go

def extFs : List Nat := [52]
def obsFs : List Nat := [30, 56, 27]
def genFs : List Nat := [72, 105, 115, 114, 17, 23]
def modeOf (f : Nat) : Mode := if extFs.contains f then .ext else if genFs.contains f then .gen else if obsFs.contains f then .obs else .pure
def keyTs : List Nat := [9, 74]
noncomputable def E : Env := { P := Tryd.prog, G := fun _ => none, mode := modeOf, keys := fun t => keyTs.contains t }
def linF (E : Env) (f : Nat) : Bool :=
  match E.P.funcs[f]? with
  | some fn => decide (E.mode f = .no) || (match fn.body with
    | some c => linC E c
    | none => true)
  | none => true
def nameF (E : Env) (f : Nat) : Bool :=
  match E.P.funcs[f]? with
  | some fn => fn.name != "runtime.NumGoroutine"
  | none => true
theorem lin_all : (List.range Tryd.prog.funcs.size).all (linF E) = true := by kernel_rfl
theorem name_all : (List.range Tryd.prog.funcs.size).all (nameF E) = true := by kernel_rfl
theorem envOk : EnvOk E where
  mixed := by kernel_rfl
  names f fn hf := by
    have hlt : f < Tryd.prog.funcs.size := (Array.getElem?_eq_some_iff.1 hf).1
    have := List.all_eq_true.1 name_all f (List.mem_range.2 hlt)
    unfold nameF at this
    rw [show E.P.funcs[f]? = some fn from hf] at this
    simpa using this
  keys kt h := by
    have hm : kt ∈ keyTs := by simpa [E] using h
    simp only [keyTs, List.mem_cons, List.not_mem_nil, or_false] at hm
    rcases hm with rfl | rfl
    · exact Maps.string_keyed Tryd.underlying9
    · exact Maps.Keyed.of_law (deep_law_laid (m := 20) (by kernel_rfl) (by decide) (Nat.le_of_ble_eq_true (by kernel_rfl)) (by kernel_rfl) (by kernel_rfl))
  lin f fn c hf hb hm := by
    have hlt : f < Tryd.prog.funcs.size := (Array.getElem?_eq_some_iff.1 hf).1
    have := List.all_eq_true.1 lin_all f (List.mem_range.2 hlt)
    unfold linF at this
    rw [show E.P.funcs[f]? = some fn from hf] at this
    dsimp only at this
    rw [hb] at this
    simpa [hm] using this
  globals g cs h := by cases h
end Go.Proofs.YticflebneoebkaaDoor.Dm
