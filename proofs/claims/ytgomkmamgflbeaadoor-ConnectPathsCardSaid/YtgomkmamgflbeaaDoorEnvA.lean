/-
  The machine of XDm at this seat's program.
-/
import Derived.Test.YtgomkmamgflbeaaDoorDmH
import Derived.Test.YtgomkmamgflbeaaDoorProg
import Derived.KernelRfl
import Derived.DeepKeys4
namespace Go.Proofs.YtgomkmamgflbeaaDoor.Dm
open Go

def noFs : List Nat := []
def extFs : List Nat := [66]
def obsFs : List Nat := [41, 43, 65, 77, 71, 70, 46]
def genFs : List Nat := [47, 48]
def modeOf (f : Nat) : Mode := if noFs.contains f then .no else if extFs.contains f then .ext else if genFs.contains f then .gen else if obsFs.contains f then .obs else .pure
def keyTs : List Nat := [9]
def ovlFs : List (Nat × Nat) := []
def cntFs : List Nat := []
def idxFs : List Nat := []
def clnFs : List Nat := []
noncomputable def extOf (g : Nat) : Option (List Ob → List D → Option (D × List Ob)) := if cntFs.contains g then some fun S l => (dCount l).map (·, S) else if idxFs.contains g then some fun S l => (dIndexB l).map (·, S) else if clnFs.contains g then some fun S l => dClone S l else match ovlFs.find? fun p => p.1 == g with
  | some p => some fun S l => (dOverlaps Tryd.prog S p.2 l).map (·, S)
  | none => none
def steps :  List Nat → Plan → Plan
  | [], p => p
  | i :: l, p => .step i (steps l p)
/-- Regions that are run by a plan: number * 1000 + operations. -/
def planL :  List (Nat × List Nat × Plan) := [
  (2013, [], steps [0, 1, 2, 3, 4, 6, 7, 5, 8, 9, 10, 11, 12] .done),
  (7023, [], steps [0, 1, 2, 3, 4, 5, 6, 7, 9, 10, 11, 13] (.both (steps [8, 12, 14, 15, 16, 17, 18, 19, 20, 21, 22] .done) (.both (steps [12] (.both (steps [8, 14, 15, 16, 17, 18, 19, 20, 21, 22] .done) (steps [14, 8, 15, 16, 17, 18, 19, 20, 21, 22] .done))) (steps [14, 15] (.both (steps [8, 12, 16, 17, 18, 19, 20, 21, 22] .done) (steps [12, 8, 16, 17, 18, 19, 20, 21, 22] .done)))))),
  (12021, [], steps [0, 1, 2, 3, 4, 5, 6, 7, 8, 9, 10, 11, 12, 13, 15, 16] (.both (steps [14, 17, 18, 19, 20] .done) (steps [17, 14, 18, 19, 20] .done)))]
def planIds :  List Nat := [2013, 7023, 12021]
def planOf (id : Nat) (ops : Array Oper) : Option (List Nat × Plan) := if planIds.contains (id * 1000 + ops.size) then (planL.find? fun p => p.1 == id * 1000 + ops.size).map (·.2) else none
noncomputable def E : Env := { P := Tryd.prog, G := fun _ => none, mode := modeOf, keys := fun t => keyTs.contains t, prim := fun _ => none, ext := extOf, plan := planOf }
def linF (E : Env) (f : Nat) : Bool :=
  match E.P.funcs[f]? with
  | some fn => decide (E.mode f = .no) || (match fn.body with
    | some c => linC E c
    | none => true)
  | none => true
def nameF (E : Env) (f : Nat) : Bool :=
  match E.P.funcs[f]? with
  | some fn => fn.name != "runtime.NumGoroutine"
  | none => true
theorem lin_all : (List.range Tryd.prog.funcs.size).all (linF E) = true := by kernel_rfl
theorem name_all : (List.range Tryd.prog.funcs.size).all (nameF E) = true := by kernel_rfl
end Go.Proofs.YtgomkmamgflbeaaDoor.Dm
