/-
  The machine of XDm at this seat's program: lists of functions by mode, plans.
-/
import Derived.Test.YthkbiiammhekfaaGreatDoorDmH
import Derived.Test.YthkbiiammhekfaaGreatDoorDmT
import Derived.Test.YthkbiiammhekfaaGreatDoorProg
import Derived.KernelRfl
import Derived.DeepKeys4
set_option linter.unusedSimpArgs false
set_option linter.unusedVariables false
namespace Go.Proofs.YthkbiiammhekfaaGreatDoor.Dm
open Go

def noFs : List Nat := []
def extFs : List Nat := [14, 15, 45, 69, 154, 130, 155, 84, 90, 51]
def obsFs : List Nat := [19, 71, 52, 38, 81, 13, 47, 16, 68, 48, 82, 49, 17, 89, 115, 91, 92, 110, 111]
def genFs : List Nat := [74, 8, 10, 120, 9, 11, 18, 12, 127, 73, 79, 28, 35, 20, 34, 36, 39, 27, 41, 43, 40, 42, 44]
def modeOf (f : Nat) : Mode := if noFs.contains f then .no else if extFs.contains f then .ext else if genFs.contains f then .gen else if obsFs.contains f then .obs else .pure
def keyTs : List Nat := [9, 50]
def ovlFs : List (Nat × Nat) := [(152, 44)]
def cntFs : List Nat := [186]
def idxFs : List Nat := [183]
def clnFs : List Nat := []
noncomputable def extOf (g : Nat) : Option (List Ob → List D → Option (D × List Ob)) := if cntFs.contains g then some fun S l => (dCount l).map (·, S) else if idxFs.contains g then some fun S l => (dIndexB l).map (·, S) else if clnFs.contains g then some fun S l => dClone S l else match ovlFs.find? fun p => p.1 == g with
  | some p => some fun S l => (dOverlaps Tryz.prog S p.2 l).map (·, S)
  | none => none
def steps :  List Nat → Plan → Plan
  | [], p => p
  | i :: l, p => .step i (steps l p)
/-- Regions that are run by a plan: number * 1000 + operations + 1000000 * the first operation's temporary. -/
def planKey (id : Nat) : List Oper → Nat
  | [] => id * 1000
  | o :: l => id * 1000 + (l.length + 1) + 1000000 * o.dst.getD 0
@[push_cast] theorem planKey_cons {id : Nat} {op : Op} {dst : Option Tmp} {g : Option (Nat × Bool)} {ft : Array Edge} {pos : String} {ty : TypeId} {l : List Oper} : planKey id ({ op := op, dst := dst, guard := g, after := ft, pos := pos, type := ty } :: l) = id * 1000 + (l.length + 1) + 1000000 * dst.getD 0 := rfl
def planL :  List (Nat × List Nat × Plan) := [
  (19002013, [], steps [0, 1, 2, 3, 4, 6, 7, 5, 8, 9, 10, 11, 12] .done),
  (23003010, [], steps [0, 1, 2, 4, 5] (.both (steps [3, 6, 7, 8, 9] .done) (steps [6, 3, 7, 8, 9] .done))),
  (89015027, [], steps [0, 1, 2, 3, 4, 5, 6, 7, 8, 9, 10, 11, 12, 13, 15, 16, 17, 21] (.both (steps [14, 18, 19, 20, 22, 23, 24, 25, 26] .done) (.both (steps [18] (.both (steps [14, 19, 20, 22, 23, 24, 25, 26] .done) (.both (steps [19] (.both (steps [14, 20, 22, 23, 24, 25, 26] .done) (.both (steps [20] (.both (steps [14, 22, 23, 24, 25, 26] .done) (steps [22, 14, 23, 24, 25, 26] .done))) (steps [22] (.both (steps [14, 20, 23, 24, 25, 26] .done) (steps [20, 14, 23, 24, 25, 26] .done)))))) (steps [22] (.both (steps [14, 19, 20, 23, 24, 25, 26] .done) (steps [19] (.both (steps [14, 20, 23, 24, 25, 26] .done) (steps [20, 14, 23, 24, 25, 26] .done)))))))) (steps [22] (.both (steps [14, 18, 19, 20, 23, 24, 25, 26] .done) (steps [18] (.both (steps [14, 19, 20, 23, 24, 25, 26] .done) (steps [19] (.both (steps [14, 20, 23, 24, 25, 26] .done) (steps [20, 14, 23, 24, 25, 26] .done)))))))))),
  (117017024, [], steps [0, 1, 2, 3, 4, 5, 6, 7, 8, 9, 11, 12, 13, 15, 16, 18, 19] (.both (steps [10, 14, 17, 20, 21, 22, 23] .done) (.both (steps [14] (.both (steps [10, 17, 20, 21, 22, 23] .done) (.both (steps [17] (.both (steps [10, 20, 21, 22, 23] .done) (steps [20, 10, 21, 22, 23] .done))) (steps [20] (.both (steps [10, 17, 21, 22, 23] .done) (steps [17, 10, 21, 22, 23] .done)))))) (.both (steps [17] (.both (steps [10, 14, 20, 21, 22, 23] .done) (.both (steps [14] (.both (steps [10, 20, 21, 22, 23] .done) (steps [20, 10, 21, 22, 23] .done))) (steps [20] (.both (steps [10, 14, 21, 22, 23] .done) (steps [14, 10, 21, 22, 23] .done)))))) (steps [20] (.both (steps [10, 14, 17, 21, 22, 23] .done) (.both (steps [14] (.both (steps [10, 17, 21, 22, 23] .done) (steps [17, 10, 21, 22, 23] .done))) (steps [17] (.both (steps [10, 14, 21, 22, 23] .done) (steps [14, 10, 21, 22, 23] .done)))))))))),
  (142019024, [], steps [0, 1, 2, 3, 4, 5, 6, 7, 8, 9, 11, 12, 13, 15, 16, 18, 19] (.both (steps [10, 14, 17, 20, 21, 22, 23] .done) (.both (steps [14] (.both (steps [10, 17, 20, 21, 22, 23] .done) (.both (steps [17] (.both (steps [10, 20, 21, 22, 23] .done) (steps [20, 10, 21, 22, 23] .done))) (steps [20] (.both (steps [10, 17, 21, 22, 23] .done) (steps [17, 10, 21, 22, 23] .done)))))) (.both (steps [17] (.both (steps [10, 14, 20, 21, 22, 23] .done) (.both (steps [14] (.both (steps [10, 20, 21, 22, 23] .done) (steps [20, 10, 21, 22, 23] .done))) (steps [20] (.both (steps [10, 14, 21, 22, 23] .done) (steps [14, 10, 21, 22, 23] .done)))))) (steps [20] (.both (steps [10, 14, 17, 21, 22, 23] .done) (.both (steps [14] (.both (steps [10, 17, 21, 22, 23] .done) (steps [17, 10, 21, 22, 23] .done))) (steps [17] (.both (steps [10, 14, 21, 22, 23] .done) (steps [14, 10, 21, 22, 23] .done)))))))))),
  (91012012, [], steps [0, 1, 2, 3, 4, 5, 6] (.both (steps [7, 8, 9, 10, 11] .done) (steps [8, 7, 9, 10, 11] .done))),
  (0, [], .done)]
def planIds :  List Nat := [
  19002013,
  23003010,
  89015027,
  117017024,
  142019024,
  91012012,
  0]
def planOf (id : Nat) (ops : Array Oper) : Option (List Nat × Plan) := if planIds.contains (planKey id ops.toList) then (planL.find? fun p => p.1 == planKey id ops.toList).map (·.2) else none
abbrev PrimF := FuncId → Option (List D → List Ob → Option (D × List Ob))
noncomputable def envOf (pr : PrimF) : Env := { P := Tryz.prog, G := fun _ => none, mode := modeOf, keys := fun t => keyTs.contains t, prim := pr, ext := extOf, plan := planOf }
noncomputable abbrev E0 : Env := envOf fun _ => none
namespace Wl
def insQ (args : List D) (S : List Ob) : Option (D × List Ob) :=
  match args with
  | [.os k 0 n false, .int .i64 i, .sl 5 [x] b] => match S[k]? with
    | some (.row 5 es) => if es.length = n ∧ 0 ≤ i ∧ i < n ∧ n ≤ 1000 then some (.os S.length 0 (n + 1) false, S.set k .dead ++ [.row 5 (es.take i.toNat ++ [x] ++ es.drop i.toNat)]) else none
    | _ => none
  | _ => none
/-- Insert: ahead of the end, and else as the machine runs it. -/
noncomputable def insP (args : List D) (S : List Ob) : Option (D × List Ob) := match insQ args S with
  | some r => some r
  | none => dcall E0 100 120 args S
end Wl
/-- The functions that are known by laws without further ones. -/
noncomputable def prim1 (f : FuncId) : Option (List D → List Ob → Option (D × List Ob)) :=
  if f = 120 then some Wl.insP else
  none
noncomputable abbrev E1 : Env := envOf prim1
/-- Functions without data whose answer is known to be true by a law of their own. -/
def primFs : List Nat := [7]
noncomputable def primOf (f : FuncId) : Option (List D → List Ob → Option (D × List Ob)) := if primFs.contains f then some (fun args S => match args with
  | [] => some (.bool true, S)
  | _ :: _ => none) else
  prim1 f
noncomputable abbrev E : Env := envOf primOf
def linF (E : Env) (f : Nat) : Bool :=
  match E.P.funcs[f]? with
  | some fn => decide (E.mode f = .no) || (match fn.body with
    | some c => linC E c
    | none => true)
  | none => true
def nameF (E : Env) (f : Nat) : Bool :=
  match E.P.funcs[f]? with
  | some fn => fn.name != "runtime.NumGoroutine"
  | none => true
/-- Functions with great plans: their check stands alone. -/
def heavyFs : List Nat := [12, 34, 73]
theorem all_cons' {α : Type} {p : α → Bool} {a : α} {l : List α} (h1 : p a = true) (h2 : l.all p = true) : (a :: l).all p = true := by rw [List.all_cons, h1, h2]; rfl
theorem linC_plan {id : Nat} {ops : Array Oper} {L : List Nat} {p : Plan} (h : planOf id ops = some (L, p)) (h2 : planR E0 ops L p = true) : linC E0 (.region id ops true) = true := by
  unfold linC
  show (!true || (match planOf id ops with
    | none => linR E0 (strictR E0 ops) ops
    | some (L, p) => planR E0 ops L p)) = true
  rw [h]; exact h2
def RegOk (r : Nat × Array Oper) : Prop := linC E0 (.region r.1 r.2 true) = true
theorem reg_nil : ∀ r ∈ ([] : List (Nat × Array Oper)), RegOk r := fun r h => by cases h
theorem reg_cons {a : Nat} {b : Array Oper} {l : List (Nat × Array Oper)} (h : linC E0 (.region a b true) = true) (k : ∀ r ∈ l, RegOk r) : ∀ r ∈ (a, b) :: l, RegOk r := fun r hr => by
  rcases List.mem_cons.1 hr with e | hr
  · rw [e]; exact h
  · exact k r hr
theorem linF_of {f : Nat} {fn : Func} {c : Code} {R : List (Nat × Array Oper)} (hf : Tryz.prog.funcs[f]? = some fn) (hb : fn.body = some c) (T : List Nat) (h1 : linT E0 T c = true) (h2 : heavyIn T c = R) (h3 : ∀ r ∈ R, RegOk r) : linF E0 f = true := by
  unfold linF
  rw [show E0.P.funcs[f]? = some fn from hf]
  dsimp only
  rw [hb]
  dsimp only
  rw [linT_ok c h1 (fun r hr => h3 r (h2 ▸ hr)), Bool.or_true]
end Go.Proofs.YthkbiiammhekfaaGreatDoor.Dm
