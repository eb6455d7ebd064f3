/-
  The machine of XDm at this seat's program.
-/
import Derived.Test.YtgfbblpkddahbaaDoorDmH
import Derived.Test.YtgfbblpkddahbaaDoorProg
import Derived.KernelRfl
import Derived.DeepKeys4
namespace Go.Proofs.YtgfbblpkddahbaaDoor.Dm
open Go

def noFs : List Nat := [113]
def extFs : List Nat := [62]
def obsFs : List Nat := [114, 117, 55, 66, 26]
def genFs : List Nat := [98, 150, 166, 152, 16, 22, 108]
def modeOf (f : Nat) : Mode := if noFs.contains f then .no else if extFs.contains f then .ext else if genFs.contains f then .gen else if obsFs.contains f then .obs else .pure
def keyTs : List Nat := [9, 80]
def ovlFs : List (Nat × Nat) := [(147, 50)]
def cntFs : List Nat := [208]
noncomputable def extOf (g : Nat) : Option (List Ob → List D → Option D) := if cntFs.contains g then some fun _ l => dCount l else match ovlFs.find? fun p => p.1 == g with
  | some p => some fun S l => dOverlaps Tryd.prog S p.2 l
  | none => none
noncomputable def E : Env := { P := Tryd.prog, G := fun _ => none, mode := modeOf, keys := fun t => keyTs.contains t, prim := fun _ => none, ext := extOf }
def linF (E : Env) (f : Nat) : Bool :=
  match E.P.funcs[f]? with
  | some fn => decide (E.mode f = .no) || (match fn.body with
    | some c => linC E c
    | none => true)
  | none => true
def nameF (E : Env) (f : Nat) : Bool :=
  match E.P.funcs[f]? with
  | some fn => fn.name != "runtime.NumGoroutine"
  | none => true
theorem lin_all : (List.range Tryd.prog.funcs.size).all (linF E) = true := by kernel_rfl
theorem name_all : (List.range Tryd.prog.funcs.size).all (nameF E) = true := by kernel_rfl
end Go.Proofs.YtgfbblpkddahbaaDoor.Dm
