/-
  The machine of XDm at this seat's program.
-/
import Derived.Test.YtlamgjbngblefaaDoorDmH
import Derived.Test.YtlamgjbngblefaaDoorProg
import Derived.KernelRfl
import Derived.DeepKeys4
namespace Go.Proofs.YtlamgjbngblefaaDoor.Dm
open Go

def noFs : List Nat := []
def extFs : List Nat := [30, 80, 76, 81, 70, 31, 17]
def obsFs : List Nat := [18, 54, 33, 22, 40, 28, 75, 21, 32, 8, 23, 44]
def genFs : List Nat := [51, 14, 7, 15, 35, 39, 36, 38, 20]
def modeOf (f : Nat) : Mode := if noFs.contains f then .no else if extFs.contains f then .ext else if genFs.contains f then .gen else if obsFs.contains f then .obs else .pure
def keyTs : List Nat := [9, 55]
def ovlFs : List (Nat × Nat) := []
def cntFs : List Nat := []
def idxFs : List Nat := []
def clnFs : List Nat := []
noncomputable def extOf (g : Nat) : Option (List Ob → List D → Option (D × List Ob)) := if cntFs.contains g then some fun S l => (dCount l).map (·, S) else if idxFs.contains g then some fun S l => (dIndexB l).map (·, S) else if clnFs.contains g then some fun S l => dClone S l else match ovlFs.find? fun p => p.1 == g with
  | some p => some fun S l => (dOverlaps Tryd.prog S p.2 l).map (·, S)
  | none => none
def steps :  List Nat → Plan → Plan
  | [], p => p
  | i :: l, p => .step i (steps l p)
/-- Regions that are run by a plan: number * 1000 + operations. -/
def planL :  List (Nat × List Nat × Plan) := [
  (0, [], .done)]
def planIds :  List Nat := [
  0]
def planOf (id : Nat) (ops : Array Oper) : Option (List Nat × Plan) := if planIds.contains (id * 1000 + ops.size) then (planL.find? fun p => p.1 == id * 1000 + ops.size).map (·.2) else none
noncomputable def E : Env := { P := Tryd.prog, G := fun _ => none, mode := modeOf, keys := fun t => keyTs.contains t, prim := fun _ => none, ext := extOf, plan := planOf }
def linF (E : Env) (f : Nat) : Bool :=
  match E.P.funcs[f]? with
  | some fn => decide (E.mode f = .no) || (match fn.body with
    | some c => linC E c
    | none => true)
  | none => true
def nameF (E : Env) (f : Nat) : Bool :=
  match E.P.funcs[f]? with
  | some fn => fn.name != "runtime.NumGoroutine"
  | none => true
theorem lin_all : (List.range Tryd.prog.funcs.size).all (linF E) = true := by kernel_rfl
theorem name_all : (List.range Tryd.prog.funcs.size).all (nameF E) = true := by kernel_rfl
end Go.Proofs.YtlamgjbngblefaaDoor.Dm
