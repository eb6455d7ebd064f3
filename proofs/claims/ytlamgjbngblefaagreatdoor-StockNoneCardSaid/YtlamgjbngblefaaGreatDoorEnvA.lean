/-
  The machine of XDm at this seat's program.
-/
import Derived.Test.YtlamgjbngblefaaGreatDoorDmH
import Derived.Test.YtlamgjbngblefaaGreatDoorProg
import Derived.KernelRfl
import Derived.DeepKeys4
namespace Go.Proofs.YtlamgjbngblefaaGreatDoor.Dm
open Go

def noFs : List Nat := [8, 10]
def extFs : List Nat := [85, 88, 113, 140, 115, 104, 101, 43, 63, 21, 22, 52, 82]
def obsFs : List Nat := [16, 60, 33, 51, 38, 29, 83, 98, 114, 99, 56, 67, 80, 79, 116, 118, 129, 130, 112, 73, 54, 62, 24, 55, 19, 64, 25, 31, 42, 81, 36, 44, 66, 105, 68]
def genFs : List Nat := [109, 27, 34, 32, 15, 48, 49, 20, 50, 39, 41, 74, 75, 78, 76, 77, 28, 35]
def modeOf (f : Nat) : Mode := if noFs.contains f then .no else if extFs.contains f then .ext else if genFs.contains f then .gen else if obsFs.contains f then .obs else .pure
def keyTs : List Nat := [9, 60]
def ovlFs : List (Nat × Nat) := []
def cntFs : List Nat := []
def idxFs : List Nat := []
def clnFs : List Nat := []
noncomputable def extOf (g : Nat) : Option (List Ob → List D → Option (D × List Ob)) := if cntFs.contains g then some fun S l => (dCount l).map (·, S) else if idxFs.contains g then some fun S l => (dIndexB l).map (·, S) else if clnFs.contains g then some fun S l => dClone S l else match ovlFs.find? fun p => p.1 == g with
  | some p => some fun S l => (dOverlaps Tryz.prog S p.2 l).map (·, S)
  | none => none
def steps :  List Nat → Plan → Plan
  | [], p => p
  | i :: l, p => .step i (steps l p)
/-- Regions that are run by a plan: number * 1000 + operations. -/
def planL :  List (Nat × List Nat × Plan) := [
  (7027, [], steps [0, 1, 2, 3, 4, 5, 6, 7, 8, 9, 10, 11, 12, 13, 14, 15, 16, 17, 18, 19, 21, 22, 20, 23, 24, 25, 26] .done),
  (7008, [5], steps [0, 1, 3] (.both (steps [2] (.both (steps [4, 5, 6, 7] .done) (steps [5, 4, 6, 7] .done))) (steps [5, 2, 4, 6, 7] .done))),
  (0, [], .done)]
def planIds :  List Nat := [
  7027,
  7008,
  0]
def planOf (id : Nat) (ops : Array Oper) : Option (List Nat × Plan) := if planIds.contains (id * 1000 + ops.size) then (planL.find? fun p => p.1 == id * 1000 + ops.size).map (·.2) else none
noncomputable def envOf (pr : FuncId → Option (List D → List Ob → Option (D × List Ob))) : Env := { P := Tryz.prog, G := fun _ => none, mode := modeOf, keys := fun t => keyTs.contains t, prim := pr, ext := extOf, plan := planOf }
/-- Functions without data whose answer is known to be true by a law of their own. -/
def primFs : List Nat := [26]
def primOf (f : FuncId) : Option (List D → List Ob → Option (D × List Ob)) := if primFs.contains f then some (fun args S => match args with
  | [] => some (.bool true, S)
  | _ :: _ => none) else none
noncomputable def E0 : Env := envOf fun _ => none
noncomputable def E : Env := envOf primOf
def linF (E : Env) (f : Nat) : Bool :=
  match E.P.funcs[f]? with
  | some fn => decide (E.mode f = .no) || (match fn.body with
    | some c => linC E c
    | none => true)
  | none => true
def nameF (E : Env) (f : Nat) : Bool :=
  match E.P.funcs[f]? with
  | some fn => fn.name != "runtime.NumGoroutine"
  | none => true
theorem lin_all : (List.range Tryz.prog.funcs.size).all (linF E0) = true := by kernel_rfl
theorem name_all : (List.range Tryz.prog.funcs.size).all (nameF E0) = true := by kernel_rfl
end Go.Proofs.YtlamgjbngblefaaGreatDoor.Dm
