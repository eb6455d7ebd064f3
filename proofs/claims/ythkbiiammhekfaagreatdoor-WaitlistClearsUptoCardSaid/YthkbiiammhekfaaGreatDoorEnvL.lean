/-
  The machine of XDm at this seat's program: lists of functions by mode, plans.
  The regions that are run by plans: checked on tables of numbers.
  The machine of XDm at this seat's program: all regions are checked.
  The machine of XDm at this seat's program is sound.
  What a datum of a plain type is, type by type.
  The frame of the laws whose listed variables no run of theirs reads: the world in which they lie as the program's text lays them.
-/
import Derived.Test.YthkbiiammhekfaaGreatDoorDmH
import Derived.Test.YthkbiiammhekfaaGreatDoorProg
import Derived.KernelRfl
import Derived.DeepKeys4
import Derived.Test.YthkbiiammhekfaaGreatDoorMw
import Derived.Test.YthkbiiammhekfaaGreatDoorTod
import Derived.Test.YthkbiiammhekfaaGreatDoorRows
import Derived.ProofKit
import Derived.LaidMore
import Derived.OpenShut
import Derived.ShutString
import Derived.Stop.Joined
import Derived.Lib.LaidTab
set_option linter.unusedSimpArgs false
set_option linter.unusedVariables false
namespace Go.Proofs.YthkbiiammhekfaaGreatDoor.Dm
open Go

def noFs : List Nat := []
def extFs : List Nat := [14, 15, 45, 69, 154, 130, 155, 84, 90, 51]
def obsFs : List Nat := [19, 71, 52, 38, 81, 13, 47, 16, 68, 48, 82, 49, 17, 89, 115, 91, 92, 110, 111]
def genFs : List Nat := [74, 8, 10, 120, 9, 11, 18, 12, 127, 73, 79, 28, 35, 20, 34, 36, 39, 27, 41, 43, 40, 42, 44]
def modeOf (f : Nat) : Mode := if noFs.contains f then .no else if extFs.contains f then .ext else if genFs.contains f then .gen else if obsFs.contains f then .obs else .pure
def keyTs : List Nat := [9, 50]
def ovlFs : List (Nat × Nat) := [(152, 44)]
def cntFs : List Nat := [186]
def idxFs : List Nat := [183]
def clnFs : List Nat := []
noncomputable def extOf (g : Nat) : Option (List Ob → List D → Option (D × List Ob)) := if cntFs.contains g then some fun S l => (dCount l).map (·, S) else if idxFs.contains g then some fun S l => (dIndexB l).map (·, S) else if clnFs.contains g then some fun S l => dClone S l else match ovlFs.find? fun p => p.1 == g with
  | some p => some fun S l => (dOverlaps Tryz.prog S p.2 l).map (·, S)
  | none => none
def steps :  List Nat → Plan → Plan
  | [], p => p
  | i :: l, p => .step i (steps l p)
/-- Regions that are run by a plan: number * 1000 + operations + 1000000 * the first operation's temporary. -/
def planKey (id : Nat) : List Oper → Nat
  | [] => id * 1000
  | o :: l => id * 1000 + (l.length + 1) + 1000000 * o.dst.getD 0
@[push_cast] theorem planKey_cons {id : Nat} {op : Op} {dst : Option Tmp} {g : Option (Nat × Bool)} {ft : Array Edge} {pos : String} {ty : TypeId} {l : List Oper} : planKey id ({ op := op, dst := dst, guard := g, after := ft, pos := pos, type := ty } :: l) = id * 1000 + (l.length + 1) + 1000000 * dst.getD 0 := rfl
def planL :  List (Nat × List Nat × Plan) := [
  (19002013, [], steps [0, 1, 2, 3, 4, 6, 7, 5, 8, 9, 10, 11, 12] .done),
  (23003010, [], steps [0, 1, 2, 4, 5] (.both (steps [3, 6, 7, 8, 9] .done) (steps [6, 3, 7, 8, 9] .done))),
  (89015027, [], steps [0, 1, 2, 3, 4, 5, 6, 7, 8, 9, 10, 11, 12, 13, 15, 16, 17, 21] (.both (steps [14, 18, 19, 20, 22, 23, 24, 25, 26] .done) (.both (steps [18] (.both (steps [14, 19, 20, 22, 23, 24, 25, 26] .done) (.both (steps [19] (.both (steps [14, 20, 22, 23, 24, 25, 26] .done) (.both (steps [20] (.both (steps [14, 22, 23, 24, 25, 26] .done) (steps [22, 14, 23, 24, 25, 26] .done))) (steps [22] (.both (steps [14, 20, 23, 24, 25, 26] .done) (steps [20, 14, 23, 24, 25, 26] .done)))))) (steps [22] (.both (steps [14, 19, 20, 23, 24, 25, 26] .done) (steps [19] (.both (steps [14, 20, 23, 24, 25, 26] .done) (steps [20, 14, 23, 24, 25, 26] .done)))))))) (steps [22] (.both (steps [14, 18, 19, 20, 23, 24, 25, 26] .done) (steps [18] (.both (steps [14, 19, 20, 23, 24, 25, 26] .done) (steps [19] (.both (steps [14, 20, 23, 24, 25, 26] .done) (steps [20, 14, 23, 24, 25, 26] .done)))))))))),
  (117017024, [], steps [0, 1, 2, 3, 4, 5, 6, 7, 8, 9, 11, 12, 13, 15, 16, 18, 19] (.both (steps [10, 14, 17, 20, 21, 22, 23] .done) (.both (steps [14] (.both (steps [10, 17, 20, 21, 22, 23] .done) (.both (steps [17] (.both (steps [10, 20, 21, 22, 23] .done) (steps [20, 10, 21, 22, 23] .done))) (steps [20] (.both (steps [10, 17, 21, 22, 23] .done) (steps [17, 10, 21, 22, 23] .done)))))) (.both (steps [17] (.both (steps [10, 14, 20, 21, 22, 23] .done) (.both (steps [14] (.both (steps [10, 20, 21, 22, 23] .done) (steps [20, 10, 21, 22, 23] .done))) (steps [20] (.both (steps [10, 14, 21, 22, 23] .done) (steps [14, 10, 21, 22, 23] .done)))))) (steps [20] (.both (steps [10, 14, 17, 21, 22, 23] .done) (.both (steps [14] (.both (steps [10, 17, 21, 22, 23] .done) (steps [17, 10, 21, 22, 23] .done))) (steps [17] (.both (steps [10, 14, 21, 22, 23] .done) (steps [14, 10, 21, 22, 23] .done)))))))))),
  (142019024, [], steps [0, 1, 2, 3, 4, 5, 6, 7, 8, 9, 11, 12, 13, 15, 16, 18, 19] (.both (steps [10, 14, 17, 20, 21, 22, 23] .done) (.both (steps [14] (.both (steps [10, 17, 20, 21, 22, 23] .done) (.both (steps [17] (.both (steps [10, 20, 21, 22, 23] .done) (steps [20, 10, 21, 22, 23] .done))) (steps [20] (.both (steps [10, 17, 21, 22, 23] .done) (steps [17, 10, 21, 22, 23] .done)))))) (.both (steps [17] (.both (steps [10, 14, 20, 21, 22, 23] .done) (.both (steps [14] (.both (steps [10, 20, 21, 22, 23] .done) (steps [20, 10, 21, 22, 23] .done))) (steps [20] (.both (steps [10, 14, 21, 22, 23] .done) (steps [14, 10, 21, 22, 23] .done)))))) (steps [20] (.both (steps [10, 14, 17, 21, 22, 23] .done) (.both (steps [14] (.both (steps [10, 17, 21, 22, 23] .done) (steps [17, 10, 21, 22, 23] .done))) (steps [17] (.both (steps [10, 14, 21, 22, 23] .done) (steps [14, 10, 21, 22, 23] .done)))))))))),
  (91012012, [], steps [0, 1, 2, 3, 4, 5, 6] (.both (steps [7, 8, 9, 10, 11] .done) (steps [8, 7, 9, 10, 11] .done))),
  (0, [], .done)]
def planIds :  List Nat := [
  19002013,
  23003010,
  89015027,
  117017024,
  142019024,
  91012012,
  0]
def planOf (id : Nat) (ops : Array Oper) : Option (List Nat × Plan) := if planIds.contains (planKey id ops.toList) then (planL.find? fun p => p.1 == planKey id ops.toList).map (·.2) else none
abbrev PrimF := FuncId → Option (List D → List Ob → Option (D × List Ob))
noncomputable def envOf (pr : PrimF) : Env := { P := Tryz.prog, G := fun _ => none, mode := modeOf, keys := fun t => keyTs.contains t, prim := pr, ext := extOf, plan := planOf }
noncomputable abbrev E0 : Env := envOf fun _ => none
namespace Wl
def insQ (args : List D) (S : List Ob) : Option (D × List Ob) :=
  match args with
  | [.os k 0 n false, .int .i64 i, .sl 5 [x] b] => match S[k]? with
    | some (.row 5 es) => if es.length = n ∧ 0 ≤ i ∧ i < n ∧ n ≤ 1000 then some (.os S.length 0 (n + 1) false, S.set k .dead ++ [.row 5 (es.take i.toNat ++ [x] ++ es.drop i.toNat)]) else none
    | _ => none
  | _ => none
/-- Insert: ahead of the end, and else as the machine runs it. -/
noncomputable def insP (args : List D) (S : List Ob) : Option (D × List Ob) := match insQ args S with
  | some r => some r
  | none => dcall E0 100 120 args S
end Wl
/-- The functions that are known by laws without further ones. -/
noncomputable def prim1 (f : FuncId) : Option (List D → List Ob → Option (D × List Ob)) :=
  if f = 120 then some Wl.insP else
  none
noncomputable abbrev E1 : Env := envOf prim1
/-- Functions without data whose answer is known to be true by a law of their own. -/
def primFs : List Nat := [7]
noncomputable def primOf (f : FuncId) : Option (List D → List Ob → Option (D × List Ob)) := if primFs.contains f then some (fun args S => match args with
  | [] => some (.bool true, S)
  | _ :: _ => none) else
  prim1 f
noncomputable abbrev E : Env := envOf primOf
def linF (E : Env) (f : Nat) : Bool :=
  match E.P.funcs[f]? with
  | some fn => decide (E.mode f = .no) || (match fn.body with
    | some c => linC E c
    | none => true)
  | none => true
def nameF (E : Env) (f : Nat) : Bool :=
  match E.P.funcs[f]? with
  | some fn => fn.name != "runtime.NumGoroutine"
  | none => true
/-- Functions with great plans: their check stands alone. -/
def heavyFs : List Nat := [12, 34, 73]
theorem all_cons' {α : Type} {p : α → Bool} {a : α} {l : List α} (h1 : p a = true) (h2 : l.all p = true) : (a :: l).all p = true := by rw [List.all_cons, h1, h2]; rfl
theorem linC_plan {id : Nat} {ops : Array Oper} {L : List Nat} {p : Plan} (h : planOf id ops = some (L, p)) (h2 : planR E0 ops L p = true) : linC E0 (.region id ops true) = true := by
  unfold linC
  show (!true || (match planOf id ops with
    | none => linR E0 (strictR E0 ops) ops
    | some (L, p) => planR E0 ops L p)) = true
  rw [h]; exact h2
def RegOk (r : Nat × Array Oper) : Prop := linC E0 (.region r.1 r.2 true) = true
theorem reg_nil : ∀ r ∈ ([] : List (Nat × Array Oper)), RegOk r := fun r h => by cases h
theorem reg_cons {a : Nat} {b : Array Oper} {l : List (Nat × Array Oper)} (h : linC E0 (.region a b true) = true) (k : ∀ r ∈ l, RegOk r) : ∀ r ∈ (a, b) :: l, RegOk r := fun r hr => by
  rcases List.mem_cons.1 hr with e | hr
  · rw [e]; exact h
  · exact k r hr
theorem linF_of {f : Nat} {fn : Func} {c : Code} {R : List (Nat × Array Oper)} (hf : Tryz.prog.funcs[f]? = some fn) (hb : fn.body = some c) (T : List Nat) (h1 : linT E0 T c = true) (h2 : heavyIn T c = R) (h3 : ∀ r ∈ R, RegOk r) : linF E0 f = true := by
  unfold linF
  rw [show E0.P.funcs[f]? = some fn from hf]
  dsimp only
  rw [hb]
  dsimp only
  rw [linT_ok c h1 (fun r hr => h3 r (h2 ▸ hr)), Bool.or_true]
end Go.Proofs.YthkbiiammhekfaaGreatDoor.Dm
namespace Go.Proofs.YthkbiiammhekfaaGreatDoor.Dm
open Go

theorem pl_23003010 : linC E0 (.region 3 (opsAt (Tryz.prog.funcs[12]?) 3 10) true) = true :=
  linC_plan (L := []) (p := steps [0, 1, 2, 4, 5] (.both (steps [3, 6, 7, 8, 9] .done) (steps [6, 3, 7, 8, 9] .done))) (by as_aux_lemma => kernel_rfl) (planR_of (n := 10) (aft := [[], [], [1], [0, 2], [], [], [5], [4, 6, 3], [3, 7], [8, 7, 0, 1, 2, 3, 4, 5, 6, 7, 8]]) (bf := [0, 0, 2, 7, 0, 0, 32, 127, 255, 511]) (com := [118, 112, 112, 0, 104, 8, 0, 0, 0, 0]) (by as_aux_lemma => kernel_rfl) (by as_aux_lemma => kernel_rfl) (by as_aux_lemma => kernel_rfl) (by as_aux_lemma => kernel_rfl) (by as_aux_lemma => kernel_rfl) (by as_aux_lemma => kernel_rfl))
theorem pl_89015027 : linC E0 (.region 15 (opsAt (Tryz.prog.funcs[12]?) 15 27) true) = true :=
  linC_plan (L := []) (p := steps [0, 1, 2, 3, 4, 5, 6, 7, 8, 9, 10, 11, 12, 13, 15, 16, 17, 21] (.both (steps [14, 18, 19, 20, 22, 23, 24, 25, 26] .done) (.both (steps [18] (.both (steps [14, 19, 20, 22, 23, 24, 25, 26] .done) (.both (steps [19] (.both (steps [14, 20, 22, 23, 24, 25, 26] .done) (.both (steps [20] (.both (steps [14, 22, 23, 24, 25, 26] .done) (steps [22, 14, 23, 24, 25, 26] .done))) (steps [22] (.both (steps [14, 20, 23, 24, 25, 26] .done) (steps [20, 14, 23, 24, 25, 26] .done)))))) (steps [22] (.both (steps [14, 19, 20, 23, 24, 25, 26] .done) (steps [19] (.both (steps [14, 20, 23, 24, 25, 26] .done) (steps [20, 14, 23, 24, 25, 26] .done)))))))) (steps [22] (.both (steps [14, 18, 19, 20, 23, 24, 25, 26] .done) (steps [18] (.both (steps [14, 19, 20, 23, 24, 25, 26] .done) (steps [19] (.both (steps [14, 20, 23, 24, 25, 26] .done) (steps [20, 14, 23, 24, 25, 26] .done)))))))))) (by as_aux_lemma => kernel_rfl) (planR_of (n := 27) (aft := [[], [0], [1], [2], [3], [4], [5], [5], [7, 5], [8, 5], [9, 5], [10, 5], [5], [12, 5], [6, 11, 13, 5, 5], [5], [5], [16, 5], [17, 5], [18, 5], [19, 5], [5], [21, 5], [15, 20, 22, 14, 5], [14, 23, 5], [5, 24], [25, 23, 0, 1, 2, 3, 4, 5, 6, 7, 8, 9, 10, 11, 12, 13, 14, 15, 16, 17, 18, 19, 20, 21, 22, 23, 24, 25]]) (bf := [0, 1, 3, 7, 15, 31, 63, 63, 191, 447, 959, 1983, 63, 4159, 16383, 63, 63, 65599, 196671, 458815, 983103, 63, 2097215, 8388607, 16777215, 33554431, 67108863]) (com := [0, 0, 0, 0, 0, 0, 8372096, 8368128, 8368128, 8368128, 8368128, 8368128, 8355840, 8355840, 0, 8339456, 6307840, 6307840, 4194304, 4194304, 4194304, 1851392, 0, 0, 0, 0, 0]) (by as_aux_lemma => kernel_rfl) (by as_aux_lemma => kernel_rfl) (by as_aux_lemma => kernel_rfl) (by as_aux_lemma => kernel_rfl) (by as_aux_lemma => kernel_rfl) (by as_aux_lemma => kernel_rfl))
theorem pl_117017024 : linC E0 (.region 17 (opsAt (Tryz.prog.funcs[12]?) 17 24) true) = true :=
  linC_plan (L := []) (p := steps [0, 1, 2, 3, 4, 5, 6, 7, 8, 9, 11, 12, 13, 15, 16, 18, 19] (.both (steps [10, 14, 17, 20, 21, 22, 23] .done) (.both (steps [14] (.both (steps [10, 17, 20, 21, 22, 23] .done) (.both (steps [17] (.both (steps [10, 20, 21, 22, 23] .done) (steps [20, 10, 21, 22, 23] .done))) (steps [20] (.both (steps [10, 17, 21, 22, 23] .done) (steps [17, 10, 21, 22, 23] .done)))))) (.both (steps [17] (.both (steps [10, 14, 20, 21, 22, 23] .done) (.both (steps [14] (.both (steps [10, 20, 21, 22, 23] .done) (steps [20, 10, 21, 22, 23] .done))) (steps [20] (.both (steps [10, 14, 21, 22, 23] .done) (steps [14, 10, 21, 22, 23] .done)))))) (steps [20] (.both (steps [10, 14, 17, 21, 22, 23] .done) (.both (steps [14] (.both (steps [10, 17, 21, 22, 23] .done) (steps [17, 10, 21, 22, 23] .done))) (steps [17] (.both (steps [10, 14, 21, 22, 23] .done) (steps [14, 10, 21, 22, 23] .done)))))))))) (by as_aux_lemma => kernel_rfl) (planR_of (n := 24) (aft := [[], [], [1], [2], [], [4], [5], [], [7], [8], [0, 3, 6, 9], [], [], [12], [13], [], [15], [16], [], [18], [19], [11, 14, 17, 20, 10], [10, 21], [22, 21, 0, 1, 2, 3, 4, 5, 6, 7, 8, 9, 10, 11, 12, 13, 14, 15, 16, 17, 18, 19, 20, 21, 22]]) (bf := [0, 0, 2, 6, 0, 16, 48, 0, 128, 384, 1023, 0, 0, 4096, 12288, 0, 32768, 98304, 0, 262144, 786432, 2097151, 4194303, 8388607]) (com := [2096126, 2096112, 2096112, 2096112, 2096000, 2096000, 2096000, 2095104, 2095104, 2095104, 0, 2094080, 2065408, 2065408, 1179648, 1852416, 1852416, 1048576, 148480, 148480, 0, 0, 0, 0]) (by as_aux_lemma => kernel_rfl) (by as_aux_lemma => kernel_rfl) (by as_aux_lemma => kernel_rfl) (by as_aux_lemma => kernel_rfl) (by as_aux_lemma => kernel_rfl) (by as_aux_lemma => kernel_rfl))
theorem pl_142019024 : linC E0 (.region 19 (opsAt (Tryz.prog.funcs[12]?) 19 24) true) = true :=
  linC_plan (L := []) (p := steps [0, 1, 2, 3, 4, 5, 6, 7, 8, 9, 11, 12, 13, 15, 16, 18, 19] (.both (steps [10, 14, 17, 20, 21, 22, 23] .done) (.both (steps [14] (.both (steps [10, 17, 20, 21, 22, 23] .done) (.both (steps [17] (.both (steps [10, 20, 21, 22, 23] .done) (steps [20, 10, 21, 22, 23] .done))) (steps [20] (.both (steps [10, 17, 21, 22, 23] .done) (steps [17, 10, 21, 22, 23] .done)))))) (.both (steps [17] (.both (steps [10, 14, 20, 21, 22, 23] .done) (.both (steps [14] (.both (steps [10, 20, 21, 22, 23] .done) (steps [20, 10, 21, 22, 23] .done))) (steps [20] (.both (steps [10, 14, 21, 22, 23] .done) (steps [14, 10, 21, 22, 23] .done)))))) (steps [20] (.both (steps [10, 14, 17, 21, 22, 23] .done) (.both (steps [14] (.both (steps [10, 17, 21, 22, 23] .done) (steps [17, 10, 21, 22, 23] .done))) (steps [17] (.both (steps [10, 14, 21, 22, 23] .done) (steps [14, 10, 21, 22, 23] .done)))))))))) (by as_aux_lemma => kernel_rfl) (planR_of (n := 24) (aft := [[], [], [1], [2], [], [4], [5], [], [7], [8], [0, 3, 6, 9], [], [], [12], [13], [], [15], [16], [], [18], [19], [11, 14, 17, 20, 10], [10, 21], [22, 21, 0, 1, 2, 3, 4, 5, 6, 7, 8, 9, 10, 11, 12, 13, 14, 15, 16, 17, 18, 19, 20, 21, 22]]) (bf := [0, 0, 2, 6, 0, 16, 48, 0, 128, 384, 1023, 0, 0, 4096, 12288, 0, 32768, 98304, 0, 262144, 786432, 2097151, 4194303, 8388607]) (com := [2096126, 2096112, 2096112, 2096112, 2096000, 2096000, 2096000, 2095104, 2095104, 2095104, 0, 2094080, 2065408, 2065408, 1179648, 1852416, 1852416, 1048576, 148480, 148480, 0, 0, 0, 0]) (by as_aux_lemma => kernel_rfl) (by as_aux_lemma => kernel_rfl) (by as_aux_lemma => kernel_rfl) (by as_aux_lemma => kernel_rfl) (by as_aux_lemma => kernel_rfl) (by as_aux_lemma => kernel_rfl))
theorem lin_airline_airlinelaw19_does : linF E0 12 = true :=
  linF_of (R := [(3, (opsAt (Tryz.prog.funcs[12]?) 3 10)), (15, (opsAt (Tryz.prog.funcs[12]?) 15 27)), (17, (opsAt (Tryz.prog.funcs[12]?) 17 24)), (19, (opsAt (Tryz.prog.funcs[12]?) 19 24))]) Tryz.func12 rfl [3010, 15027, 17024, 19024] (by as_aux_lemma => kernel_rfl) (by as_aux_lemma => kernel_rfl) (reg_cons pl_23003010 (reg_cons pl_89015027 (reg_cons pl_117017024 (reg_cons pl_142019024 (reg_nil)))))
theorem pl_91012012 : linC E0 (.region 12 (opsAt (Tryz.prog.funcs[34]?) 12 12) true) = true :=
  linC_plan (L := []) (p := steps [0, 1, 2, 3, 4, 5, 6] (.both (steps [7, 8, 9, 10, 11] .done) (steps [8, 7, 9, 10, 11] .done))) (by as_aux_lemma => kernel_rfl) (planR_of (n := 12) (aft := [[], [], [1], [2], [3], [], [4, 5], [0, 6], [], [8], [7, 9, 7], [10, 10, 0, 1, 2, 3, 4, 5, 6, 7, 8, 9, 10]]) (bf := [0, 0, 2, 6, 14, 0, 62, 127, 0, 256, 1023, 2047]) (com := [894, 800, 800, 800, 800, 768, 768, 512, 0, 0, 0, 0]) (by as_aux_lemma => kernel_rfl) (by as_aux_lemma => kernel_rfl) (by as_aux_lemma => kernel_rfl) (by as_aux_lemma => kernel_rfl) (by as_aux_lemma => kernel_rfl) (by as_aux_lemma => kernel_rfl))
theorem lin___airline_airlineref19_List__Join : linF E0 34 = true :=
  linF_of (R := [(12, (opsAt (Tryz.prog.funcs[34]?) 12 12))]) Tryz.func34 rfl [12012] (by as_aux_lemma => kernel_rfl) (by as_aux_lemma => kernel_rfl) (reg_cons pl_91012012 (reg_nil))
theorem pl_19002013 : linC E0 (.region 2 (opsAt (Tryz.prog.funcs[73]?) 2 13) true) = true :=
  linC_plan (L := []) (p := steps [0, 1, 2, 3, 4, 6, 7, 5, 8, 9, 10, 11, 12] .done) (by as_aux_lemma => kernel_rfl) (planR_of (n := 13) (aft := [[], [], [1], [2], [3], [4], [], [], [7], [5, 6, 8, 5], [0, 0, 1, 2, 3, 4, 5, 6, 7, 8, 9], [10, 0, 1, 2, 3, 4, 5, 6, 7, 8, 9], [11, 9, 9, 0, 1, 2, 3, 4, 5, 6, 7, 8, 9]]) (bf := [0, 0, 2, 6, 14, 30, 0, 0, 128, 510, 1023, 2047, 4095]) (com := [1022, 448, 448, 448, 448, 256, 416, 32, 0, 0, 0, 0, 0]) (by as_aux_lemma => kernel_rfl) (by as_aux_lemma => kernel_rfl) (by as_aux_lemma => kernel_rfl) (by as_aux_lemma => kernel_rfl) (by as_aux_lemma => kernel_rfl) (by as_aux_lemma => kernel_rfl))
theorem lin___airline_waitlist_queue_airline_waitlist_Wait___insert : linF E0 73 = true :=
  linF_of (R := [(2, (opsAt (Tryz.prog.funcs[73]?) 2 13))]) Tryz.func73 rfl [2013] (by as_aux_lemma => kernel_rfl) (by as_aux_lemma => kernel_rfl) (reg_cons pl_19002013 (reg_nil))
theorem lin_heavy : heavyFs.all (linF E0) = true := by
  unfold heavyFs
  refine all_cons' lin_airline_airlinelaw19_does ?_
  refine all_cons' lin___airline_airlineref19_List__Join ?_
  refine all_cons' lin___airline_waitlist_queue_airline_waitlist_Wait___insert ?_
  exact rfl
end Go.Proofs.YthkbiiammhekfaaGreatDoor.Dm
namespace Go.Proofs.YthkbiiammhekfaaGreatDoor.Dm
open Go

theorem lin_light : (List.range Tryz.prog.funcs.size).all (fun f => heavyFs.contains f || linF E0 f) = true := by kernel_rfl
theorem lin_all : (List.range Tryz.prog.funcs.size).all (linF E0) = true := by
  rw [List.all_eq_true]
  intro f hf
  have h := List.all_eq_true.1 lin_light f hf
  rw [Bool.or_eq_true] at h
  rcases h with h | h
  · exact List.all_eq_true.1 lin_heavy f (List.contains_iff_mem.1 h)
  · exact h
theorem name_all : (List.range Tryz.prog.funcs.size).all (nameF E0) = true := by kernel_rfl
end Go.Proofs.YthkbiiammhekfaaGreatDoor.Dm
namespace Go.Proofs.YthkbiiammhekfaaGreatDoor.Dm
open Go

theorem envOk0 : EnvOk E0 where
  mixed := by kernel_rfl
  names f fn hf := by
    have hlt : f < Tryz.prog.funcs.size := (Array.getElem?_eq_some_iff.1 hf).1
    have := List.all_eq_true.1 name_all f (List.mem_range.2 hlt)
    unfold nameF at this
    rw [show E0.P.funcs[f]? = some fn from hf] at this
    simpa using this
  keys kt h := by
    have hm : kt ∈ keyTs := by simpa [E0, envOf] using h
    simp only [keyTs, List.mem_cons, List.not_mem_nil, or_false] at hm
    first
    | (rcases hm with rfl | rfl
       · exact Maps.string_keyed Tryz.underlying9
       · exact Maps.Keyed.of_law (deep_law_laid (m := 20) (by kernel_rfl) (by decide) (Nat.le_of_ble_eq_true (by kernel_rfl)) (by kernel_rfl) (by kernel_rfl)))
    | (subst hm; exact Maps.string_keyed Tryz.underlying9)
    | (subst hm; exact Maps.Keyed.of_law (deep_law_laid (m := 20) (by kernel_rfl) (by decide) (Nat.le_of_ble_eq_true (by kernel_rfl)) (by kernel_rfl) (by kernel_rfl)))
    | exact hm.elim
  lin f fn c hf hb hm := by
    have hlt : f < Tryz.prog.funcs.size := (Array.getElem?_eq_some_iff.1 hf).1
    have := List.all_eq_true.1 lin_all f (List.mem_range.2 hlt)
    unfold linF at this
    rw [show E0.P.funcs[f]? = some fn from hf] at this
    dsimp only at this
    rw [hb] at this
    simpa [hm] using this
  globals g cs h := by cases h
  prims f p h := by cases h
  exts g p h := by
    change extOf g = some p at h
    unfold extOf at h
    split at h
    · rename_i hm
      have h' := (Option.some.inj h).symm
      clear h
      subst h'
      first
      | (exfalso; revert hm; simp [cntFs]; done)
      | skip
      simp only [cntFs, List.contains_cons, List.contains_nil, Bool.or_false, beq_iff_eq] at hm
      subst hm
      refine ⟨_, Extern.BytealgCount.count, Tryz.func186, by kernel_rfl, by kernel_rfl, by kernel_rfl, by kernel_rfl, fun S args d S' W C vs hd hs hP hv => ?_⟩
      obtain ⟨d', hd', e⟩ := Option.map_eq_some_iff.1 hd
      cases e
      obtain ⟨u, hu, hr⟩ := run_dCount (P := E0.P) (W := W) hd' hv
      exact ⟨u, W, C, hu, hr, hs, Fr.refl _ _ _⟩
    split at h
    · rename_i hm
      have h' := (Option.some.inj h).symm
      clear h
      subst h'
      first
      | (exfalso; revert hm; simp [idxFs]; done)
      | skip
      simp only [idxFs, List.contains_cons, List.contains_nil, Bool.or_false, beq_iff_eq] at hm
      subst hm
      refine ⟨_, Extern.BytealgIndexByte.indexByte, Tryz.func183, by kernel_rfl, by kernel_rfl, by kernel_rfl, by kernel_rfl, fun S args d S' W C vs hd hs hP hv => ?_⟩
      obtain ⟨d', hd', e⟩ := Option.map_eq_some_iff.1 hd
      cases e
      obtain ⟨u, hu, hr⟩ := run_dIndexB (P := E0.P) (W := W) hd' hv
      exact ⟨u, W, C, hu, hr, hs, Fr.refl _ _ _⟩
    · split at h
      · rename_i hm
        have h' := (Option.some.inj h).symm
        clear h
        subst h'
        first
        | (exfalso; revert hm; simp [clnFs]; done)
        | skip
      · split at h
        · rename_i q hq
          have h' := (Option.some.inj h).symm
          clear h
          subst h'
          have hm := List.mem_of_find?_eq_some hq
          have he : q.1 = g := by simpa using List.find?_some hq
          subst he
          first
          | (exfalso; revert hm; simp [ovlFs]; done)
          | skip
          simp only [ovlFs, List.mem_cons, List.not_mem_nil, or_false] at hm
          subst hm
          refine ⟨_, Extern.SlicesOverlaps.overlaps #[44, 44] #[4], Tryz.func152, by kernel_rfl, by kernel_rfl, by kernel_rfl, by kernel_rfl, fun S args d S' W C vs hd hs hP hv => ?_⟩
          obtain ⟨d', hd', e⟩ := Option.map_eq_some_iff.1 hd
          cases e
          obtain ⟨u, hu, hr⟩ := run_dOverlaps (P := Tryz.prog) (tR := 4) hs hd' hv
          exact ⟨u, W, C, hu, hr, hs, Fr.refl _ _ _⟩
        · cases h
theorem linR_prim (p q : FuncId → Option (List D → List Ob → Option (D × List Ob))) (b : Bool) (ops : Array Oper) : linR (envOf p) b ops = linR (envOf q) b ops := rfl
theorem freeAt_prim (p q : FuncId → Option (List D → List Ob → Option (D × List Ob))) (ops : Array Oper) (bf : Array Nat) (L : List Nat) (listed : Array Bool) (i : Nat) : freeAt (envOf p) ops bf L listed i = freeAt (envOf q) ops bf L listed i := rfl
theorem planOk_prim (p q : FuncId → Option (List D → List Ob → Option (D × List Ob))) (ops : Array Oper) (bf : Array Nat) (L : List Nat) : ∀ (pl : Plan) (inB : Bool) (n : Nat) (listed : Array Bool), planOk (envOf p) ops bf L inB n listed pl = planOk (envOf q) ops bf L inB n listed pl
  | .done, inB, n, listed => by cases inB <;> cases n <;> rfl
  | .step i pl, inB, n, listed => by
    cases n with
    | zero => cases inB <;> rfl
    | succ n =>
      rw [planOk, planOk, planOk_prim p q ops bf L pl, freeAt_prim p q]
  | .both a b, inB, n, listed => by
    cases n with
    | zero => cases inB <;> rfl
    | succ n =>
      rw [planOk, planOk, planOk_prim p q ops bf L a, planOk_prim p q ops bf L b]
theorem planR_prim (p q : FuncId → Option (List D → List Ob → Option (D × List Ob))) (ops : Array Oper) (L : List Nat) (pl : Plan) : planR (envOf p) ops L pl = planR (envOf q) ops L pl := by
  unfold planR
  rw [planOk_prim p q]
theorem linC_prim (p q : FuncId → Option (List D → List Ob → Option (D × List Ob))) : ∀ c : Code, linC (envOf p) c = linC (envOf q) c := by
  intro c
  induction c with
  | seq x y ihx ihy => simp only [linC, ihx, ihy]
  | cond c x y ihx ihy => simp only [linC, ihx, ihy]
  | block id c ih => simp only [linC, ih]
  | loop c ih => simp only [linC, ih]
  | scope c ih => simp only [linC, ih]
  | region id ops draw =>
    have e1 : (envOf p).plan = (envOf q).plan := rfl
    unfold linC
    rw [e1]
    congr 1
    split
    · exact linR_prim p q _ ops
    · exact planR_prim p q _ _ _
  | _ => rfl
def isT0 : Option (D × List Ob) → Bool
  | some (.bool b, _) => b
  | _ => false
theorem isT0_spec {o : Option (D × List Ob)} (h : isT0 o = true) : ∃ T, o = some (.bool true, T) := by
  unfold isT0 at h
  split at h
  · subst h; exact ⟨_, rfl⟩
  · cases h
end Go.Proofs.YthkbiiammhekfaaGreatDoor.Dm
namespace Go.Proofs.YthkbiiammhekfaaGreatDoor.Dm
open Go Go.RowKit

section
variable {P : Program} {t e : TypeId} {k : IntKind} {d : D} {cs : List D}
theorem TC.toInt (ht : P.underlying t = some (.int k)) (h : TC P t cs) : ∃ n, cs = [.int k n] ∧ (Lit.int k n).wf = true := by
  cases h with
  | int h hw => rw [ht] at h; cases h; exact ⟨_, rfl, hw⟩
  | str h => rw [ht] at h; cases h
  | bool h => rw [ht] at h; cases h
  | nils h => rw [ht] at h; cases h
  | sl h => rw [ht] at h; cases h
  | struct h => rw [ht] at h; cases h
  | array h => rw [ht] at h; cases h
theorem TC.toStr (ht : P.underlying t = some .string) (h : TC P t cs) : ∃ s : ByteArray, cs = [.str s] ∧ s.size ≤ maxLen := by
  cases h with
  | int h hw => rw [ht] at h; cases h
  | str h hs => exact ⟨_, rfl, hs⟩
  | bool h => rw [ht] at h; cases h
  | nils h => rw [ht] at h; cases h
  | sl h => rw [ht] at h; cases h
  | struct h => rw [ht] at h; cases h
  | array h => rw [ht] at h; cases h
theorem TC.toBool (ht : P.underlying t = some .bool) (h : TC P t cs) : ∃ b, cs = [.bool b] := by
  cases h with
  | int h hw => rw [ht] at h; cases h
  | str h hs => rw [ht] at h; cases h
  | bool h b => exact ⟨_, rfl⟩
  | nils h => rw [ht] at h; cases h
  | sl h => rw [ht] at h; cases h
  | struct h => rw [ht] at h; cases h
  | array h => rw [ht] at h; cases h
theorem TC.toSlice (ht : P.underlying t = some (.slice e)) (h : TC P t cs) : cs = [.nils] ∨ ∃ es x, cs = [.sl (P.cellsOf e) es x] ∧ es.length ≤ maxLen ∧ ∀ (j : Nat) (c : List D), es[j]? = some c → TC P e c := by
  cases h with
  | int h hw => rw [ht] at h; cases h
  | str h hs => rw [ht] at h; cases h
  | bool h => rw [ht] at h; cases h
  | nils h => exact .inl rfl
  | sl h hl hes => rw [ht] at h; cases h; exact .inr ⟨_, _, rfl, hl, hes⟩
  | struct h => rw [ht] at h; cases h
  | array h => rw [ht] at h; cases h
theorem TC.toStruct {fs : Array Field} (ht : P.underlying t = some (.struct fs)) (h : TC P t cs) : cs.length = P.cellsOf t ∧ ∀ f ∈ fs.toList, TC P f.type ((cs.drop f.offset).take (P.cellsOf f.type)) := by
  cases h with
  | int h hw => rw [ht] at h; cases h
  | str h hs => rw [ht] at h; cases h
  | bool h => rw [ht] at h; cases h
  | nils h => rw [ht] at h; cases h
  | sl h => rw [ht] at h; cases h
  | struct h hl hf => rw [ht] at h; cases h; exact ⟨hl, hf⟩
  | array h => rw [ht] at h; cases h
theorem TC.toArray {n : Nat} (ht : P.underlying t = some (.array n e)) (h : TC P t cs) : cs.length = P.cellsOf t ∧ ∀ i, i < n → TC P e ((cs.drop (i * P.cellsOf e)).take (P.cellsOf e)) := by
  cases h with
  | int h hw => rw [ht] at h; cases h
  | str h hs => rw [ht] at h; cases h
  | bool h => rw [ht] at h; cases h
  | nils h => rw [ht] at h; cases h
  | sl h => rw [ht] at h; cases h
  | struct h => rw [ht] at h; cases h
  | array h hl hf => rw [ht] at h; cases h; exact ⟨hl, hf⟩
/-- The elements of a list that was handed in: a nil list has none. -/
def lst : D → List (List D)
  | .sl _ es _ => es
  | _ => []
theorem TV.one (hg : aggT P t = some false) (h : TV P t d) : TC P t [d] := by
  rcases h with ⟨h, -⟩ | ⟨-, h⟩
  · rw [hg] at h; cases h
  · exact h
theorem TV.agg (hg : aggT P t = some true) (h : TV P t d) : ∃ ds, d = .agg ds ∧ TC P t ds := by
  rcases h with ⟨-, h⟩ | ⟨h, -⟩
  · exact h
  · rw [hg] at h; cases h
theorem TV.toInt (ht : P.underlying t = some (.int k)) (h : TV P t d) : ∃ n, d = .int k n ∧ (Lit.int k n).wf = true := by
  obtain ⟨n, hn, hw⟩ := (h.one (by rw [aggT, ht]; rfl)).toInt ht
  exact ⟨n, by simpa using hn, hw⟩
theorem TV.toStr (ht : P.underlying t = some .string) (h : TV P t d) : ∃ s : ByteArray, d = .str s ∧ s.size ≤ maxLen := by
  obtain ⟨n, hn, hw⟩ := (h.one (by rw [aggT, ht]; rfl)).toStr ht
  exact ⟨n, by simpa using hn, hw⟩
theorem TV.toBool (ht : P.underlying t = some .bool) (h : TV P t d) : ∃ b, d = .bool b := by
  obtain ⟨n, hn⟩ := (h.one (by rw [aggT, ht]; rfl)).toBool ht
  exact ⟨n, by simpa using hn⟩
theorem TV.toSlice (ht : P.underlying t = some (.slice e)) (h : TV P t d) : d = .nils ∨ ∃ es x, d = .sl (P.cellsOf e) es x ∧ es.length ≤ maxLen ∧ ∀ (j : Nat) (c : List D), es[j]? = some c → TC P e c := by
  rcases (h.one (by rw [aggT, ht]; rfl)).toSlice ht with h | ⟨es, x, h, hl, hes⟩
  · exact .inl (by simpa using h)
  · exact .inr ⟨es, x, by simpa using h, hl, hes⟩
theorem TV.toStruct {fs : Array Field} (ht : P.underlying t = some (.struct fs)) (h : TV P t d) : ∃ cs, d = .agg cs ∧ cs.length = P.cellsOf t ∧ ∀ f ∈ fs.toList, TC P f.type ((cs.drop f.offset).take (P.cellsOf f.type)) := by
  obtain ⟨ds, hd, hc⟩ := h.agg (by rw [aggT, ht]; rfl)
  exact ⟨ds, hd, hc.toStruct ht⟩
theorem TVs.inv {ts : List TypeId} {xs : List D} (h : TVs P (t :: ts) xs) : ∃ d ds, xs = d :: ds ∧ TV P t d ∧ TVs P ts ds := by
  cases h with
  | cons h hs => exact ⟨_, _, rfl, h, hs⟩
theorem TVs.inv0 {xs : List D} (h : TVs P [] xs) : xs = [] := by
  cases h; rfl
end
end Go.Proofs.YthkbiiammhekfaaGreatDoor.Dm
namespace Go.Proofs.YthkbiiammhekfaaGreatDoor
open Go.ChangeShapes Go.WideShapes Go.ChangeAt Go.RowKit

theorem own : ownKnob Tryz.prog.godebug = none := by kernel_rfl
def tabLaid : List (String × DataW Unit) := [("math/bits.deBruijn32tab", Rows.laid_math_bits_deBruijn32tab), ("math/bits.deBruijn64tab", Rows.laid_math_bits_deBruijn64tab), ("internal/strconv.uint64pow10", Rows.laid_internal_strconv_uint64pow10)]
/-- The heap of the program's own initialisers meets the condition. -/
theorem tab_door (os : Os) (args : Array Value) : laidMetH Tryz.prog tabLaid ((World.doorLaid Tryz.prog 1000 os).forCall (fun _ _ => 0) ⟨#[], args, []⟩).memory :=
  laidMetH_of_parts3 (fuel := 8) (laidMet_of_run' 8 (by kernel_rfl) (by kernel_rfl)) (by kernel_rfl) (by kernel_rfl)
end Go.Proofs.YthkbiiammhekfaaGreatDoor
