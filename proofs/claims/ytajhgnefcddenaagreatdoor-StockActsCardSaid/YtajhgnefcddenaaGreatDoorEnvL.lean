/-
  The machine of XDm at this seat's program: lists of functions by mode, plans.
  The regions that are run by plans: checked on tables of numbers.
  The machine of XDm at this seat's program: all regions are checked.
  The machine of XDm at this seat's program is sound.
-/
import Derived.Test.YtajhgnefcddenaaGreatDoorDmH
import Derived.Test.YtajhgnefcddenaaGreatDoorDmG
import Derived.Test.YtajhgnefcddenaaGreatDoorProg
import Derived.KernelRfl
import Derived.DeepKeys4
import Derived.Test.YtajhgnefcddenaaGreatDoorMw
namespace Go.Proofs.YtajhgnefcddenaaGreatDoor.Dm
open Go

def noFs : List Nat := []
def extFs : List Nat := [55, 91, 82, 144, 159, 107, 109, 61, 35, 77, 69, 80]
def obsFs : List Nat := [16, 21, 93, 62, 17, 49, 104, 15, 57, 18, 65, 74, 67, 81, 58, 105, 59, 19, 78, 76, 75, 108, 121, 110, 111, 143, 116, 33, 34, 79, 27, 36]
def genFs : List Nat := [97, 10, 12, 135, 11, 28, 13, 20, 14, 142, 95, 102, 39, 46, 22, 45, 47, 50, 38, 68, 31, 53, 66, 30, 51, 72, 52, 54, 73, 25, 26]
def modeOf (f : Nat) : Mode := if noFs.contains f then .no else if extFs.contains f then .ext else if genFs.contains f then .gen else if obsFs.contains f then .obs else .pure
def keyTs : List Nat := [9, 50]
def ovlFs : List (Nat × Nat) := [(154, 44)]
def cntFs : List Nat := []
def idxFs : List Nat := []
def clnFs : List Nat := []
noncomputable def extOf (g : Nat) : Option (List Ob → List D → Option (D × List Ob)) := if cntFs.contains g then some fun S l => (dCount l).map (·, S) else if idxFs.contains g then some fun S l => (dIndexB l).map (·, S) else if clnFs.contains g then some fun S l => dClone S l else match ovlFs.find? fun p => p.1 == g with
  | some p => some fun S l => (dOverlaps Tryz.prog S p.2 l).map (·, S)
  | none => none
def steps :  List Nat → Plan → Plan
  | [], p => p
  | i :: l, p => .step i (steps l p)
/-- Regions that are run by a plan: number * 1000 + operations + 1000000 * the first operation's temporary. -/
def planKey (id : Nat) : List Oper → Nat
  | [] => id * 1000
  | o :: l => id * 1000 + (l.length + 1) + 1000000 * o.dst.getD 0
@[push_cast] theorem planKey_cons {id : Nat} {op : Op} {dst : Option Tmp} {g : Option (Nat × Bool)} {ft : Array Edge} {pos : String} {ty : TypeId} {l : List Oper} : planKey id ({ op := op, dst := dst, guard := g, after := ft, pos := pos, type := ty } :: l) = id * 1000 + (l.length + 1) + 1000000 * dst.getD 0 := rfl
def planL :  List (Nat × List Nat × Plan) := [
  (19002013, [], steps [0, 1, 2, 3, 4, 6, 7, 5, 8, 9, 10, 11, 12] .done),
  (30007027, [], steps [0, 1, 2, 3, 4, 5, 6, 7, 8, 9, 10, 11, 12, 13, 14, 15, 16, 17, 18, 19, 21, 22, 20, 23, 24, 25, 26] .done),
  (40007008, [5], steps [0, 1, 3] (.both (steps [2] (.both (steps [4, 5, 6, 7] .done) (steps [5, 4, 6, 7] .done))) (steps [5, 2, 4, 6, 7] .done))),
  (38010033, [], steps [0, 1, 2, 3, 4, 5, 7, 8, 9, 10] (.both (steps [6, 11, 12, 13, 14, 15, 16, 17, 18, 19, 20, 21, 22, 23, 24, 25, 26, 27, 28, 29, 30, 31, 32] .done) (steps [11] (.both (steps [6, 12, 13, 14, 15, 16, 17, 18, 19, 20, 21, 22, 23, 24, 25, 26, 27, 28, 29, 30, 31, 32] .done) (steps [12, 6, 13, 14, 15, 16, 17, 18, 19, 20, 21, 22, 23, 24, 25, 26, 27, 28, 29, 30, 31, 32] .done))))),
  (31006014, [9, 10], steps [0, 1, 2, 3, 4, 5, 6] (.both (steps [7, 8] (.both (steps [9, 10, 11, 12, 13] .done) (steps [10, 9, 11, 12, 13] .done))) (.both (steps [9] (.both (steps [7, 8, 10, 11, 12, 13] .done) (steps [10] (.both (steps [7, 8, 11, 12, 13] .done) (steps [11] (.both (steps [7, 8, 12, 13] .done) (steps [12, 7, 8, 13] .done))))))) (steps [10] (.both (steps [7, 8, 9, 11, 12, 13] .done) (steps [9] (.both (steps [7, 8, 11, 12, 13] .done) (steps [11] (.both (steps [7, 8, 12, 13] .done) (steps [12, 7, 8, 13] .done)))))))))),
  (48012018, [], steps [0, 1, 2, 3, 4, 5, 6, 8, 11, 14] (.both (steps [7, 9, 10, 12, 13, 15, 16, 17] .done) (.both (steps [9, 10] (.both (steps [7, 12, 13, 15, 16, 17] .done) (steps [12, 7, 13, 15, 16, 17] .done))) (steps [12] (.both (steps [7, 9, 10, 13, 15, 16, 17] .done) (steps [9, 7, 10, 13, 15, 16, 17] .done)))))),
  (105019020, [], steps [0, 1, 3, 4, 2, 5, 6, 7, 8, 9, 11, 12, 10, 13, 14, 15, 16, 17, 18, 19] .done),
  (23003010, [], steps [0, 1, 2, 4, 5] (.both (steps [3, 6, 7, 8, 9] .done) (steps [6, 3, 7, 8, 9] .done))),
  (89015027, [], steps [0, 1, 2, 3, 4, 5, 6, 7, 8, 9, 10, 11, 12, 13, 15, 16, 17, 21] (.both (steps [14, 18, 19, 20, 22, 23, 24, 25, 26] .done) (.both (steps [18] (.both (steps [14, 19, 20, 22, 23, 24, 25, 26] .done) (.both (steps [19] (.both (steps [14, 20, 22, 23, 24, 25, 26] .done) (.both (steps [20] (.both (steps [14, 22, 23, 24, 25, 26] .done) (steps [22, 14, 23, 24, 25, 26] .done))) (steps [22] (.both (steps [14, 20, 23, 24, 25, 26] .done) (steps [20, 14, 23, 24, 25, 26] .done)))))) (steps [22] (.both (steps [14, 19, 20, 23, 24, 25, 26] .done) (steps [19] (.both (steps [14, 20, 23, 24, 25, 26] .done) (steps [20, 14, 23, 24, 25, 26] .done)))))))) (steps [22] (.both (steps [14, 18, 19, 20, 23, 24, 25, 26] .done) (steps [18] (.both (steps [14, 19, 20, 23, 24, 25, 26] .done) (steps [19] (.both (steps [14, 20, 23, 24, 25, 26] .done) (steps [20, 14, 23, 24, 25, 26] .done)))))))))),
  (117017024, [], steps [0, 1, 2, 3, 4, 5, 6, 7, 8, 9, 11, 12, 13, 15, 16, 18, 19] (.both (steps [10, 14, 17, 20, 21, 22, 23] .done) (.both (steps [14] (.both (steps [10, 17, 20, 21, 22, 23] .done) (.both (steps [17] (.both (steps [10, 20, 21, 22, 23] .done) (steps [20, 10, 21, 22, 23] .done))) (steps [20] (.both (steps [10, 17, 21, 22, 23] .done) (steps [17, 10, 21, 22, 23] .done)))))) (.both (steps [17] (.both (steps [10, 14, 20, 21, 22, 23] .done) (.both (steps [14] (.both (steps [10, 20, 21, 22, 23] .done) (steps [20, 10, 21, 22, 23] .done))) (steps [20] (.both (steps [10, 14, 21, 22, 23] .done) (steps [14, 10, 21, 22, 23] .done)))))) (steps [20] (.both (steps [10, 14, 17, 21, 22, 23] .done) (.both (steps [14] (.both (steps [10, 17, 21, 22, 23] .done) (steps [17, 10, 21, 22, 23] .done))) (steps [17] (.both (steps [10, 14, 21, 22, 23] .done) (steps [14, 10, 21, 22, 23] .done)))))))))),
  (142019024, [], steps [0, 1, 2, 3, 4, 5, 6, 7, 8, 9, 11, 12, 13, 15, 16, 18, 19] (.both (steps [10, 14, 17, 20, 21, 22, 23] .done) (.both (steps [14] (.both (steps [10, 17, 20, 21, 22, 23] .done) (.both (steps [17] (.both (steps [10, 20, 21, 22, 23] .done) (steps [20, 10, 21, 22, 23] .done))) (steps [20] (.both (steps [10, 17, 21, 22, 23] .done) (steps [17, 10, 21, 22, 23] .done)))))) (.both (steps [17] (.both (steps [10, 14, 20, 21, 22, 23] .done) (.both (steps [14] (.both (steps [10, 20, 21, 22, 23] .done) (steps [20, 10, 21, 22, 23] .done))) (steps [20] (.both (steps [10, 14, 21, 22, 23] .done) (steps [14, 10, 21, 22, 23] .done)))))) (steps [20] (.both (steps [10, 14, 17, 21, 22, 23] .done) (.both (steps [14] (.both (steps [10, 17, 21, 22, 23] .done) (steps [17, 10, 21, 22, 23] .done))) (steps [17] (.both (steps [10, 14, 21, 22, 23] .done) (steps [14, 10, 21, 22, 23] .done)))))))))),
  (91012012, [], steps [0, 1, 2, 3, 4, 5, 6] (.both (steps [7, 8, 9, 10, 11] .done) (steps [8, 7, 9, 10, 11] .done))),
  (0, [], .done)]
def planIds :  List Nat := [
  19002013,
  30007027,
  40007008,
  38010033,
  31006014,
  48012018,
  105019020,
  23003010,
  89015027,
  117017024,
  142019024,
  91012012,
  0]
def planOf (id : Nat) (ops : Array Oper) : Option (List Nat × Plan) := if planIds.contains (planKey id ops.toList) then (planL.find? fun p => p.1 == planKey id ops.toList).map (·.2) else none
abbrev PrimF := FuncId → Option (List D → List Ob → Option (D × List Ob))
noncomputable def envOf (pr : PrimF) : Env := { P := Tryz.prog, G := fun _ => none, mode := modeOf, keys := fun t => keyTs.contains t, prim := pr, ext := extOf, plan := planOf }
noncomputable abbrev E0 : Env := envOf fun _ => none
namespace Lg
def cmpI (a b : Int) : Int := if a < b then -1 else if b < a then 1 else 0
def cmpS (a b : ByteArray) : Int := if Op.bytesLess a.toList b.toList = true then -1 else if (!(Op.bytesLess a.toList b.toList || a.toList == b.toList)) = true then 1 else 0
def or4 (u v w z : Int) : Int := if u ≠ 0 then u else if v ≠ 0 then v else if w ≠ 0 then w else z
def isLid : D → Bool
  | .agg [.str _, .int .i64 _, .int .i64 _, .str _] => true
  | _ => false
def keyCells : D → List D
  | .agg cs => cs
  | _ => []
def kCmp : List D → List D → Int
  | [.str c, .int _ n, .int _ d, .str f], [.str c', .int _ n', .int _ d', .str f'] => or4 (cmpS c c') (cmpI n n') (cmpI d d') (cmpS f f')
  | _, _ => 0
def legsQ (args : List D) (S : List Ob) : Option (D × List Ob) :=
  match args with
  | [.loc k 0 0] => match S[k]? with
    | some (.row 2 [[_, .map m]]) => match S[m]? with
      | some (.map t ps) => if t = 50 ∧ ps.length ≤ 12 ∧ ps.all (fun p => isLid p.1) = true then
          some (if ps.isEmpty then .nils else .sl 4 ((ps.map fun p => keyCells p.1).mergeSort fun x y => !decide (kCmp y x < 0)) false, S) else none
      | _ => none
    | _ => none
  | _ => none
/-- Legs: at an inventory, and else (a nil one, a zero value) as the machine runs it. -/
noncomputable def legsP (args : List D) (S : List Ob) : Option (D × List Ob) := match legsQ args S with
  | some r => some r
  | none => dcall E0 100 69 args S
end Lg
/-- Functions without data whose answer is known to be true by a law of their own. -/
def primFs : List Nat := [24]
noncomputable def primOf (f : FuncId) : Option (List D → List Ob → Option (D × List Ob)) := if primFs.contains f then some (fun args S => match args with
  | [] => some (.bool true, S)
  | _ :: _ => none) else
  if f = 69 then some Lg.legsP else
  none
noncomputable abbrev E : Env := envOf primOf
def linF (E : Env) (f : Nat) : Bool :=
  match E.P.funcs[f]? with
  | some fn => decide (E.mode f = .no) || (match fn.body with
    | some c => linC E c
    | none => true)
  | none => true
def nameF (E : Env) (f : Nat) : Bool :=
  match E.P.funcs[f]? with
  | some fn => fn.name != "runtime.NumGoroutine"
  | none => true
/-- Functions with great plans: their check stands alone. -/
def heavyFs : List Nat := [5, 6, 14, 27, 45, 73, 95]
theorem all_cons' {α : Type} {p : α → Bool} {a : α} {l : List α} (h1 : p a = true) (h2 : l.all p = true) : (a :: l).all p = true := by rw [List.all_cons, h1, h2]; rfl
theorem linC_plan {id : Nat} {ops : Array Oper} {L : List Nat} {p : Plan} (h : planOf id ops = some (L, p)) (h2 : planR E0 ops L p = true) : linC E0 (.region id ops true) = true := by
  unfold linC
  show (!true || (match planOf id ops with
    | none => linR E0 (strictR E0 ops) ops
    | some (L, p) => planR E0 ops L p)) = true
  rw [h]; exact h2
def RegOk (r : Nat × Array Oper) : Prop := linC E0 (.region r.1 r.2 true) = true
theorem reg_nil : ∀ r ∈ ([] : List (Nat × Array Oper)), RegOk r := fun r h => by cases h
theorem reg_cons {a : Nat} {b : Array Oper} {l : List (Nat × Array Oper)} (h : linC E0 (.region a b true) = true) (k : ∀ r ∈ l, RegOk r) : ∀ r ∈ (a, b) :: l, RegOk r := fun r hr => by
  rcases List.mem_cons.1 hr with e | hr
  · rw [e]; exact h
  · exact k r hr
theorem linF_of {f : Nat} {fn : Func} {c : Code} {R : List (Nat × Array Oper)} (hf : Tryz.prog.funcs[f]? = some fn) (hb : fn.body = some c) (T : List Nat) (h1 : linT E0 T c = true) (h2 : heavyIn T c = R) (h3 : ∀ r ∈ R, RegOk r) : linF E0 f = true := by
  unfold linF
  rw [show E0.P.funcs[f]? = some fn from hf]
  dsimp only
  rw [hb]
  dsimp only
  rw [linT_ok c h1 (fun r hr => h3 r (h2 ▸ hr)), Bool.or_true]
end Go.Proofs.YtajhgnefcddenaaGreatDoor.Dm
namespace Go.Proofs.YtajhgnefcddenaaGreatDoor.Dm
open Go

theorem pl_38010033 : linC E0 (.region 10 (opsAt (Tryz.prog.funcs[5]?) 10 33) true) = true :=
  linC_plan (L := []) (p := steps [0, 1, 2, 3, 4, 5, 7, 8, 9, 10] (.both (steps [6, 11, 12, 13, 14, 15, 16, 17, 18, 19, 20, 21, 22, 23, 24, 25, 26, 27, 28, 29, 30, 31, 32] .done) (steps [11] (.both (steps [6, 12, 13, 14, 15, 16, 17, 18, 19, 20, 21, 22, 23, 24, 25, 26, 27, 28, 29, 30, 31, 32] .done) (steps [12, 6, 13, 14, 15, 16, 17, 18, 19, 20, 21, 22, 23, 24, 25, 26, 27, 28, 29, 30, 31, 32] .done))))) (by as_aux_lemma => kernel_rfl) (planR_of (n := 33) (aft := [[], [], [], [], [2, 3], [4], [0, 1, 5], [], [], [], [], [9, 10], [11], [7, 8, 12, 6], [6, 13], [14, 13], [15], [16, 15], [17, 15], [18, 15, 15], [19], [19], [21, 19], [22, 19], [20, 23, 19], [19, 24, 15], [25, 19, 15], [26], [26], [27, 28, 26, 26], [29, 26], [26, 30, 15], [15, 31]]) (bf := [0, 0, 0, 0, 12, 28, 63, 0, 0, 0, 0, 1536, 3584, 8191, 16383, 32767, 65535, 131071, 262143, 524287, 1048575, 1048575, 3145727, 7340031, 16777215, 33554431, 67108863, 134217727, 134217727, 536870911, 1073741823, 2147483647, 4294967295]) (com := [8126, 8124, 8072, 8064, 8064, 8064, 0, 8000, 7744, 1088, 64, 0, 0, 0, 0, 0, 0, 0, 0, 0, 14680064, 0, 0, 0, 0, 0, 0, 268435456, 0, 0, 0, 0, 0]) (by as_aux_lemma => kernel_rfl) (by as_aux_lemma => kernel_rfl) (by as_aux_lemma => kernel_rfl) (by as_aux_lemma => kernel_rfl) (by as_aux_lemma => kernel_rfl) (by as_aux_lemma => kernel_rfl))
theorem lin_airline_airlinelaw15_StockActs : linF E0 5 = true :=
  linF_of (R := [(10, (opsAt (Tryz.prog.funcs[5]?) 10 33))]) Tryz.func5 rfl [10033] (by as_aux_lemma => kernel_rfl) (by as_aux_lemma => kernel_rfl) (reg_cons pl_38010033 (reg_nil))
theorem pl_31006014 : linC E0 (.region 6 (opsAt (Tryz.prog.funcs[6]?) 6 14) true) = true :=
  linC_plan (L := [9, 10]) (p := steps [0, 1, 2, 3, 4, 5, 6] (.both (steps [7, 8] (.both (steps [9, 10, 11, 12, 13] .done) (steps [10, 9, 11, 12, 13] .done))) (.both (steps [9] (.both (steps [7, 8, 10, 11, 12, 13] .done) (steps [10] (.both (steps [7, 8, 11, 12, 13] .done) (steps [11] (.both (steps [7, 8, 12, 13] .done) (steps [12, 7, 8, 13] .done))))))) (steps [10] (.both (steps [7, 8, 9, 11, 12, 13] .done) (steps [9] (.both (steps [7, 8, 11, 12, 13] .done) (steps [11] (.both (steps [7, 8, 12, 13] .done) (steps [12, 7, 8, 13] .done)))))))))) (by as_aux_lemma => kernel_rfl) (planR_of (n := 14) (aft := [[], [0], [1], [], [3], [4, 2], [], [6], [7], [], [], [9, 2, 5, 0, 1, 2, 9, 10], [10, 5, 11, 0, 1, 2, 3, 4, 5, 9, 10, 11], [8, 12, 0, 1, 2, 3, 4, 5, 6, 7, 8, 9, 10, 11, 12]]) (bf := [0, 1, 3, 0, 8, 31, 0, 64, 192, 0, 0, 1599, 3647, 8191]) (com := [2008, 2008, 2008, 1984, 1984, 1984, 7680, 0, 7680, 0, 0, 0, 0, 0]) (by as_aux_lemma => kernel_rfl) (by as_aux_lemma => kernel_rfl) (by as_aux_lemma => kernel_rfl) (by as_aux_lemma => kernel_rfl) (by as_aux_lemma => kernel_rfl) (by as_aux_lemma => kernel_rfl))
theorem pl_48012018 : linC E0 (.region 12 (opsAt (Tryz.prog.funcs[6]?) 12 18) true) = true :=
  linC_plan (L := []) (p := steps [0, 1, 2, 3, 4, 5, 6, 8, 11, 14] (.both (steps [7, 9, 10, 12, 13, 15, 16, 17] .done) (.both (steps [9, 10] (.both (steps [7, 12, 13, 15, 16, 17] .done) (steps [12, 7, 13, 15, 16, 17] .done))) (steps [12] (.both (steps [7, 9, 10, 13, 15, 16, 17] .done) (steps [9, 7, 10, 13, 15, 16, 17] .done)))))) (by as_aux_lemma => kernel_rfl) (planR_of (n := 18) (aft := [[], [], [1], [], [3], [4], [], [0, 2, 5, 6, 5], [], [], [9], [], [11], [12, 7], [], [8, 10, 13, 14, 13], [7, 15, 0, 1, 2, 3, 4, 5, 6, 7], [15, 16, 0, 1, 2, 3, 4, 5, 6, 7, 8, 9, 10, 11, 12, 13, 14, 15, 16]]) (bf := [0, 0, 2, 0, 8, 24, 0, 127, 0, 0, 512, 0, 2048, 6399, 0, 32767, 65535, 131071]) (com := [24446, 24440, 24440, 24384, 24384, 24384, 24320, 1024, 32384, 12288, 12416, 18048, 0, 0, 13952, 0, 0, 0]) (by as_aux_lemma => kernel_rfl) (by as_aux_lemma => kernel_rfl) (by as_aux_lemma => kernel_rfl) (by as_aux_lemma => kernel_rfl) (by as_aux_lemma => kernel_rfl) (by as_aux_lemma => kernel_rfl))
theorem pl_105019020 : linC E0 (.region 19 (opsAt (Tryz.prog.funcs[6]?) 19 20) true) = true :=
  linC_plan (L := []) (p := steps [0, 1, 3, 4, 2, 5, 6, 7, 8, 9, 11, 12, 10, 13, 14, 15, 16, 17, 18, 19] .done) (by as_aux_lemma => kernel_rfl) (planR_of (n := 20) (aft := [[], [], [0, 1], [], [], [3, 4, 2], [2, 5, 5], [6, 6], [7], [7], [8, 9, 7, 7], [7], [7], [11, 12, 10, 7], [10, 13, 13, 7], [7, 14], [15, 14], [16, 16], [16, 17], [18, 17, 0, 1, 2, 3, 4, 5, 6, 7, 8, 9, 10, 11, 12, 13, 14, 15, 16, 17, 18]]) (bf := [0, 0, 3, 0, 0, 31, 63, 127, 255, 255, 1023, 255, 255, 8191, 16383, 32767, 65535, 131071, 262143, 524287]) (com := [26, 24, 0, 20, 4, 0, 0, 0, 6656, 6144, 0, 5120, 1024, 0, 0, 0, 0, 0, 0, 0]) (by as_aux_lemma => kernel_rfl) (by as_aux_lemma => kernel_rfl) (by as_aux_lemma => kernel_rfl) (by as_aux_lemma => kernel_rfl) (by as_aux_lemma => kernel_rfl) (by as_aux_lemma => kernel_rfl))
theorem lin_airline_airlinelaw15_StockTogether : linF E0 6 = true :=
  linF_of (R := [(6, (opsAt (Tryz.prog.funcs[6]?) 6 14)), (12, (opsAt (Tryz.prog.funcs[6]?) 12 18)), (19, (opsAt (Tryz.prog.funcs[6]?) 19 20))]) Tryz.func6 rfl [6014, 12018, 19020] (by as_aux_lemma => kernel_rfl) (by as_aux_lemma => kernel_rfl) (reg_cons pl_31006014 (reg_cons pl_48012018 (reg_cons pl_105019020 (reg_nil))))
theorem pl_23003010 : linC E0 (.region 3 (opsAt (Tryz.prog.funcs[14]?) 3 10) true) = true :=
  linC_plan (L := []) (p := steps [0, 1, 2, 4, 5] (.both (steps [3, 6, 7, 8, 9] .done) (steps [6, 3, 7, 8, 9] .done))) (by as_aux_lemma => kernel_rfl) (planR_of (n := 10) (aft := [[], [], [1], [0, 2], [], [], [5], [4, 6, 3], [3, 7], [8, 7, 0, 1, 2, 3, 4, 5, 6, 7, 8]]) (bf := [0, 0, 2, 7, 0, 0, 32, 127, 255, 511]) (com := [118, 112, 112, 0, 104, 8, 0, 0, 0, 0]) (by as_aux_lemma => kernel_rfl) (by as_aux_lemma => kernel_rfl) (by as_aux_lemma => kernel_rfl) (by as_aux_lemma => kernel_rfl) (by as_aux_lemma => kernel_rfl) (by as_aux_lemma => kernel_rfl))
theorem pl_89015027 : linC E0 (.region 15 (opsAt (Tryz.prog.funcs[14]?) 15 27) true) = true :=
  linC_plan (L := []) (p := steps [0, 1, 2, 3, 4, 5, 6, 7, 8, 9, 10, 11, 12, 13, 15, 16, 17, 21] (.both (steps [14, 18, 19, 20, 22, 23, 24, 25, 26] .done) (.both (steps [18] (.both (steps [14, 19, 20, 22, 23, 24, 25, 26] .done) (.both (steps [19] (.both (steps [14, 20, 22, 23, 24, 25, 26] .done) (.both (steps [20] (.both (steps [14, 22, 23, 24, 25, 26] .done) (steps [22, 14, 23, 24, 25, 26] .done))) (steps [22] (.both (steps [14, 20, 23, 24, 25, 26] .done) (steps [20, 14, 23, 24, 25, 26] .done)))))) (steps [22] (.both (steps [14, 19, 20, 23, 24, 25, 26] .done) (steps [19] (.both (steps [14, 20, 23, 24, 25, 26] .done) (steps [20, 14, 23, 24, 25, 26] .done)))))))) (steps [22] (.both (steps [14, 18, 19, 20, 23, 24, 25, 26] .done) (steps [18] (.both (steps [14, 19, 20, 23, 24, 25, 26] .done) (steps [19] (.both (steps [14, 20, 23, 24, 25, 26] .done) (steps [20, 14, 23, 24, 25, 26] .done)))))))))) (by as_aux_lemma => kernel_rfl) (planR_of (n := 27) (aft := [[], [0], [1], [2], [3], [4], [5], [5], [7, 5], [8, 5], [9, 5], [10, 5], [5], [12, 5], [6, 11, 13, 5, 5], [5], [5], [16, 5], [17, 5], [18, 5], [19, 5], [5], [21, 5], [15, 20, 22, 14, 5], [14, 23, 5], [5, 24], [25, 23, 0, 1, 2, 3, 4, 5, 6, 7, 8, 9, 10, 11, 12, 13, 14, 15, 16, 17, 18, 19, 20, 21, 22, 23, 24, 25]]) (bf := [0, 1, 3, 7, 15, 31, 63, 63, 191, 447, 959, 1983, 63, 4159, 16383, 63, 63, 65599, 196671, 458815, 983103, 63, 2097215, 8388607, 16777215, 33554431, 67108863]) (com := [0, 0, 0, 0, 0, 0, 8372096, 8368128, 8368128, 8368128, 8368128, 8368128, 8355840, 8355840, 0, 8339456, 6307840, 6307840, 4194304, 4194304, 4194304, 1851392, 0, 0, 0, 0, 0]) (by as_aux_lemma => kernel_rfl) (by as_aux_lemma => kernel_rfl) (by as_aux_lemma => kernel_rfl) (by as_aux_lemma => kernel_rfl) (by as_aux_lemma => kernel_rfl) (by as_aux_lemma => kernel_rfl))
theorem pl_117017024 : linC E0 (.region 17 (opsAt (Tryz.prog.funcs[14]?) 17 24) true) = true :=
  linC_plan (L := []) (p := steps [0, 1, 2, 3, 4, 5, 6, 7, 8, 9, 11, 12, 13, 15, 16, 18, 19] (.both (steps [10, 14, 17, 20, 21, 22, 23] .done) (.both (steps [14] (.both (steps [10, 17, 20, 21, 22, 23] .done) (.both (steps [17] (.both (steps [10, 20, 21, 22, 23] .done) (steps [20, 10, 21, 22, 23] .done))) (steps [20] (.both (steps [10, 17, 21, 22, 23] .done) (steps [17, 10, 21, 22, 23] .done)))))) (.both (steps [17] (.both (steps [10, 14, 20, 21, 22, 23] .done) (.both (steps [14] (.both (steps [10, 20, 21, 22, 23] .done) (steps [20, 10, 21, 22, 23] .done))) (steps [20] (.both (steps [10, 14, 21, 22, 23] .done) (steps [14, 10, 21, 22, 23] .done)))))) (steps [20] (.both (steps [10, 14, 17, 21, 22, 23] .done) (.both (steps [14] (.both (steps [10, 17, 21, 22, 23] .done) (steps [17, 10, 21, 22, 23] .done))) (steps [17] (.both (steps [10, 14, 21, 22, 23] .done) (steps [14, 10, 21, 22, 23] .done)))))))))) (by as_aux_lemma => kernel_rfl) (planR_of (n := 24) (aft := [[], [], [1], [2], [], [4], [5], [], [7], [8], [0, 3, 6, 9], [], [], [12], [13], [], [15], [16], [], [18], [19], [11, 14, 17, 20, 10], [10, 21], [22, 21, 0, 1, 2, 3, 4, 5, 6, 7, 8, 9, 10, 11, 12, 13, 14, 15, 16, 17, 18, 19, 20, 21, 22]]) (bf := [0, 0, 2, 6, 0, 16, 48, 0, 128, 384, 1023, 0, 0, 4096, 12288, 0, 32768, 98304, 0, 262144, 786432, 2097151, 4194303, 8388607]) (com := [2096126, 2096112, 2096112, 2096112, 2096000, 2096000, 2096000, 2095104, 2095104, 2095104, 0, 2094080, 2065408, 2065408, 1179648, 1852416, 1852416, 1048576, 148480, 148480, 0, 0, 0, 0]) (by as_aux_lemma => kernel_rfl) (by as_aux_lemma => kernel_rfl) (by as_aux_lemma => kernel_rfl) (by as_aux_lemma => kernel_rfl) (by as_aux_lemma => kernel_rfl) (by as_aux_lemma => kernel_rfl))
theorem pl_142019024 : linC E0 (.region 19 (opsAt (Tryz.prog.funcs[14]?) 19 24) true) = true :=
  linC_plan (L := []) (p := steps [0, 1, 2, 3, 4, 5, 6, 7, 8, 9, 11, 12, 13, 15, 16, 18, 19] (.both (steps [10, 14, 17, 20, 21, 22, 23] .done) (.both (steps [14] (.both (steps [10, 17, 20, 21, 22, 23] .done) (.both (steps [17] (.both (steps [10, 20, 21, 22, 23] .done) (steps [20, 10, 21, 22, 23] .done))) (steps [20] (.both (steps [10, 17, 21, 22, 23] .done) (steps [17, 10, 21, 22, 23] .done)))))) (.both (steps [17] (.both (steps [10, 14, 20, 21, 22, 23] .done) (.both (steps [14] (.both (steps [10, 20, 21, 22, 23] .done) (steps [20, 10, 21, 22, 23] .done))) (steps [20] (.both (steps [10, 14, 21, 22, 23] .done) (steps [14, 10, 21, 22, 23] .done)))))) (steps [20] (.both (steps [10, 14, 17, 21, 22, 23] .done) (.both (steps [14] (.both (steps [10, 17, 21, 22, 23] .done) (steps [17, 10, 21, 22, 23] .done))) (steps [17] (.both (steps [10, 14, 21, 22, 23] .done) (steps [14, 10, 21, 22, 23] .done)))))))))) (by as_aux_lemma => kernel_rfl) (planR_of (n := 24) (aft := [[], [], [1], [2], [], [4], [5], [], [7], [8], [0, 3, 6, 9], [], [], [12], [13], [], [15], [16], [], [18], [19], [11, 14, 17, 20, 10], [10, 21], [22, 21, 0, 1, 2, 3, 4, 5, 6, 7, 8, 9, 10, 11, 12, 13, 14, 15, 16, 17, 18, 19, 20, 21, 22]]) (bf := [0, 0, 2, 6, 0, 16, 48, 0, 128, 384, 1023, 0, 0, 4096, 12288, 0, 32768, 98304, 0, 262144, 786432, 2097151, 4194303, 8388607]) (com := [2096126, 2096112, 2096112, 2096112, 2096000, 2096000, 2096000, 2095104, 2095104, 2095104, 0, 2094080, 2065408, 2065408, 1179648, 1852416, 1852416, 1048576, 148480, 148480, 0, 0, 0, 0]) (by as_aux_lemma => kernel_rfl) (by as_aux_lemma => kernel_rfl) (by as_aux_lemma => kernel_rfl) (by as_aux_lemma => kernel_rfl) (by as_aux_lemma => kernel_rfl) (by as_aux_lemma => kernel_rfl))
theorem lin_airline_airlinelaw19_does : linF E0 14 = true :=
  linF_of (R := [(3, (opsAt (Tryz.prog.funcs[14]?) 3 10)), (15, (opsAt (Tryz.prog.funcs[14]?) 15 27)), (17, (opsAt (Tryz.prog.funcs[14]?) 17 24)), (19, (opsAt (Tryz.prog.funcs[14]?) 19 24))]) Tryz.func14 rfl [3010, 15027, 17024, 19024] (by as_aux_lemma => kernel_rfl) (by as_aux_lemma => kernel_rfl) (reg_cons pl_23003010 (reg_cons pl_89015027 (reg_cons pl_117017024 (reg_cons pl_142019024 (reg_nil)))))
theorem pl_30007027 : linC E0 (.region 7 (opsAt (Tryz.prog.funcs[27]?) 7 27) true) = true :=
  linC_plan (L := []) (p := steps [0, 1, 2, 3, 4, 5, 6, 7, 8, 9, 10, 11, 12, 13, 14, 15, 16, 17, 18, 19, 21, 22, 20, 23, 24, 25, 26] .done) (by as_aux_lemma => kernel_rfl) (planR_of (n := 27) (aft := [[], [], [0, 1], [2], [3], [3], [4, 5, 3], [3, 6], [7, 3], [8], [8], [9, 10, 8, 8], [8], [8], [12, 13, 11, 8], [11, 14, 8], [8, 15], [16, 14], [17], [17], [18, 19, 17, 17], [17], [17], [21, 22, 20, 17], [20, 23, 23, 17], [24, 17], [17, 25]]) (bf := [0, 0, 3, 7, 15, 15, 63, 127, 255, 511, 511, 2047, 511, 511, 16383, 32767, 65535, 131071, 262143, 262143, 1048575, 262143, 262143, 8388607, 16777215, 33554431, 67108863]) (com := [2, 0, 0, 0, 32, 0, 0, 0, 0, 13312, 12288, 12288, 8192, 0, 0, 0, 0, 0, 6815744, 6291456, 0, 5242880, 1048576, 0, 0, 0, 0]) (by as_aux_lemma => kernel_rfl) (by as_aux_lemma => kernel_rfl) (by as_aux_lemma => kernel_rfl) (by as_aux_lemma => kernel_rfl) (by as_aux_lemma => kernel_rfl) (by as_aux_lemma => kernel_rfl))
theorem lin_airline_airlinelaw15_answers : linF E0 27 = true :=
  linF_of (R := [(7, (opsAt (Tryz.prog.funcs[27]?) 7 27))]) Tryz.func27 rfl [7027] (by as_aux_lemma => kernel_rfl) (by as_aux_lemma => kernel_rfl) (reg_cons pl_30007027 (reg_nil))
theorem pl_91012012 : linC E0 (.region 12 (opsAt (Tryz.prog.funcs[45]?) 12 12) true) = true :=
  linC_plan (L := []) (p := steps [0, 1, 2, 3, 4, 5, 6] (.both (steps [7, 8, 9, 10, 11] .done) (steps [8, 7, 9, 10, 11] .done))) (by as_aux_lemma => kernel_rfl) (planR_of (n := 12) (aft := [[], [], [1], [2], [3], [], [4, 5], [0, 6], [], [8], [7, 9, 7], [10, 10, 0, 1, 2, 3, 4, 5, 6, 7, 8, 9, 10]]) (bf := [0, 0, 2, 6, 14, 0, 62, 127, 0, 256, 1023, 2047]) (com := [894, 800, 800, 800, 800, 768, 768, 512, 0, 0, 0, 0]) (by as_aux_lemma => kernel_rfl) (by as_aux_lemma => kernel_rfl) (by as_aux_lemma => kernel_rfl) (by as_aux_lemma => kernel_rfl) (by as_aux_lemma => kernel_rfl) (by as_aux_lemma => kernel_rfl))
theorem lin___airline_airlineref19_List__Join : linF E0 45 = true :=
  linF_of (R := [(12, (opsAt (Tryz.prog.funcs[45]?) 12 12))]) Tryz.func45 rfl [12012] (by as_aux_lemma => kernel_rfl) (by as_aux_lemma => kernel_rfl) (reg_cons pl_91012012 (reg_nil))
theorem pl_40007008 : linC E0 (.region 7 (opsAt (Tryz.prog.funcs[73]?) 7 8) true) = true :=
  linC_plan (L := [5]) (p := steps [0, 1, 3] (.both (steps [2] (.both (steps [4, 5, 6, 7] .done) (steps [5, 4, 6, 7] .done))) (steps [5, 2, 4, 6, 7] .done))) (by as_aux_lemma => kernel_rfl) (planR_of (n := 8) (aft := [[], [], [0, 1], [], [3, 2], [], [5, 2, 4, 0, 1, 2, 5], [4, 6, 0, 1, 2, 3, 4, 5, 6]]) (bf := [0, 0, 3, 0, 15, 0, 63, 127]) (com := [42, 40, 0, 36, 0, 0, 0, 0]) (by as_aux_lemma => kernel_rfl) (by as_aux_lemma => kernel_rfl) (by as_aux_lemma => kernel_rfl) (by as_aux_lemma => kernel_rfl) (by as_aux_lemma => kernel_rfl) (by as_aux_lemma => kernel_rfl))
theorem lin___airline_airlineref15_Stock__Resize : linF E0 73 = true :=
  linF_of (R := [(7, (opsAt (Tryz.prog.funcs[73]?) 7 8))]) Tryz.func73 rfl [7008] (by as_aux_lemma => kernel_rfl) (by as_aux_lemma => kernel_rfl) (reg_cons pl_40007008 (reg_nil))
theorem pl_19002013 : linC E0 (.region 2 (opsAt (Tryz.prog.funcs[95]?) 2 13) true) = true :=
  linC_plan (L := []) (p := steps [0, 1, 2, 3, 4, 6, 7, 5, 8, 9, 10, 11, 12] .done) (by as_aux_lemma => kernel_rfl) (planR_of (n := 13) (aft := [[], [], [1], [2], [3], [4], [], [], [7], [5, 6, 8, 5], [0, 0, 1, 2, 3, 4, 5, 6, 7, 8, 9], [10, 0, 1, 2, 3, 4, 5, 6, 7, 8, 9], [11, 9, 9, 0, 1, 2, 3, 4, 5, 6, 7, 8, 9]]) (bf := [0, 0, 2, 6, 14, 30, 0, 0, 128, 510, 1023, 2047, 4095]) (com := [1022, 448, 448, 448, 448, 256, 416, 32, 0, 0, 0, 0, 0]) (by as_aux_lemma => kernel_rfl) (by as_aux_lemma => kernel_rfl) (by as_aux_lemma => kernel_rfl) (by as_aux_lemma => kernel_rfl) (by as_aux_lemma => kernel_rfl) (by as_aux_lemma => kernel_rfl))
theorem lin___airline_waitlist_queue_airline_waitlist_Wait___insert : linF E0 95 = true :=
  linF_of (R := [(2, (opsAt (Tryz.prog.funcs[95]?) 2 13))]) Tryz.func95 rfl [2013] (by as_aux_lemma => kernel_rfl) (by as_aux_lemma => kernel_rfl) (reg_cons pl_19002013 (reg_nil))
theorem lin_heavy : heavyFs.all (linF E0) = true := by
  unfold heavyFs
  refine all_cons' lin_airline_airlinelaw15_StockActs ?_
  refine all_cons' lin_airline_airlinelaw15_StockTogether ?_
  refine all_cons' lin_airline_airlinelaw19_does ?_
  refine all_cons' lin_airline_airlinelaw15_answers ?_
  refine all_cons' lin___airline_airlineref19_List__Join ?_
  refine all_cons' lin___airline_airlineref15_Stock__Resize ?_
  refine all_cons' lin___airline_waitlist_queue_airline_waitlist_Wait___insert ?_
  exact rfl
end Go.Proofs.YtajhgnefcddenaaGreatDoor.Dm
namespace Go.Proofs.YtajhgnefcddenaaGreatDoor.Dm
open Go

theorem lin_light : (List.range Tryz.prog.funcs.size).all (fun f => heavyFs.contains f || linF E0 f) = true := by kernel_rfl
theorem lin_all : (List.range Tryz.prog.funcs.size).all (linF E0) = true := by
  rw [List.all_eq_true]
  intro f hf
  have h := List.all_eq_true.1 lin_light f hf
  rw [Bool.or_eq_true] at h
  rcases h with h | h
  · exact List.all_eq_true.1 lin_heavy f (List.contains_iff_mem.1 h)
  · exact h
theorem name_all : (List.range Tryz.prog.funcs.size).all (nameF E0) = true := by kernel_rfl
end Go.Proofs.YtajhgnefcddenaaGreatDoor.Dm
namespace Go.Proofs.YtajhgnefcddenaaGreatDoor.Dm
open Go

theorem envOk0 : EnvOk E0 where
  mixed := by kernel_rfl
  names f fn hf := by
    have hlt : f < Tryz.prog.funcs.size := (Array.getElem?_eq_some_iff.1 hf).1
    have := List.all_eq_true.1 name_all f (List.mem_range.2 hlt)
    unfold nameF at this
    rw [show E0.P.funcs[f]? = some fn from hf] at this
    simpa using this
  keys kt h := by
    have hm : kt ∈ keyTs := by simpa [E0, envOf] using h
    simp only [keyTs, List.mem_cons, List.not_mem_nil, or_false] at hm
    first
    | (rcases hm with rfl | rfl
       · exact Maps.string_keyed Tryz.underlying9
       · exact Maps.Keyed.of_law (deep_law_laid (m := 20) (by kernel_rfl) (by decide) (Nat.le_of_ble_eq_true (by kernel_rfl)) (by kernel_rfl) (by kernel_rfl)))
    | (subst hm; exact Maps.string_keyed Tryz.underlying9)
    | (subst hm; exact Maps.Keyed.of_law (deep_law_laid (m := 20) (by kernel_rfl) (by decide) (Nat.le_of_ble_eq_true (by kernel_rfl)) (by kernel_rfl) (by kernel_rfl)))
    | exact hm.elim
  lin f fn c hf hb hm := by
    have hlt : f < Tryz.prog.funcs.size := (Array.getElem?_eq_some_iff.1 hf).1
    have := List.all_eq_true.1 lin_all f (List.mem_range.2 hlt)
    unfold linF at this
    rw [show E0.P.funcs[f]? = some fn from hf] at this
    dsimp only at this
    rw [hb] at this
    simpa [hm] using this
  globals g cs h := by cases h
  prims f p h := by cases h
  exts g p h := by
    change extOf g = some p at h
    unfold extOf at h
    split at h
    · rename_i hm
      have h' := (Option.some.inj h).symm
      clear h
      subst h'
      first
      | (exfalso; revert hm; simp [cntFs]; done)
      | skip
    split at h
    · rename_i hm
      have h' := (Option.some.inj h).symm
      clear h
      subst h'
      first
      | (exfalso; revert hm; simp [idxFs]; done)
      | skip
    · split at h
      · rename_i hm
        have h' := (Option.some.inj h).symm
        clear h
        subst h'
        first
        | (exfalso; revert hm; simp [clnFs]; done)
        | skip
      · split at h
        · rename_i q hq
          have h' := (Option.some.inj h).symm
          clear h
          subst h'
          have hm := List.mem_of_find?_eq_some hq
          have he : q.1 = g := by simpa using List.find?_some hq
          subst he
          first
          | (exfalso; revert hm; simp [ovlFs]; done)
          | skip
          simp only [ovlFs, List.mem_cons, List.not_mem_nil, or_false] at hm
          subst hm
          refine ⟨_, Extern.SlicesOverlaps.overlaps #[44, 44] #[4], Tryz.func154, by kernel_rfl, by kernel_rfl, by kernel_rfl, by kernel_rfl, fun S args d S' W C vs hd hs hP hv => ?_⟩
          obtain ⟨d', hd', e⟩ := Option.map_eq_some_iff.1 hd
          cases e
          obtain ⟨u, hu, hr⟩ := run_dOverlaps (P := Tryz.prog) (tR := 4) hs hd' hv
          exact ⟨u, W, C, hu, hr, hs, Fr.refl _ _ _⟩
        · cases h
theorem linR_prim (p q : FuncId → Option (List D → List Ob → Option (D × List Ob))) (b : Bool) (ops : Array Oper) : linR (envOf p) b ops = linR (envOf q) b ops := rfl
theorem freeAt_prim (p q : FuncId → Option (List D → List Ob → Option (D × List Ob))) (ops : Array Oper) (bf : Array Nat) (L : List Nat) (listed : Array Bool) (i : Nat) : freeAt (envOf p) ops bf L listed i = freeAt (envOf q) ops bf L listed i := rfl
theorem planOk_prim (p q : FuncId → Option (List D → List Ob → Option (D × List Ob))) (ops : Array Oper) (bf : Array Nat) (L : List Nat) : ∀ (pl : Plan) (inB : Bool) (n : Nat) (listed : Array Bool), planOk (envOf p) ops bf L inB n listed pl = planOk (envOf q) ops bf L inB n listed pl
  | .done, inB, n, listed => by cases inB <;> cases n <;> rfl
  | .step i pl, inB, n, listed => by
    cases n with
    | zero => cases inB <;> rfl
    | succ n =>
      rw [planOk, planOk, planOk_prim p q ops bf L pl, freeAt_prim p q]
  | .both a b, inB, n, listed => by
    cases n with
    | zero => cases inB <;> rfl
    | succ n =>
      rw [planOk, planOk, planOk_prim p q ops bf L a, planOk_prim p q ops bf L b]
theorem planR_prim (p q : FuncId → Option (List D → List Ob → Option (D × List Ob))) (ops : Array Oper) (L : List Nat) (pl : Plan) : planR (envOf p) ops L pl = planR (envOf q) ops L pl := by
  unfold planR
  rw [planOk_prim p q]
theorem linC_prim (p q : FuncId → Option (List D → List Ob → Option (D × List Ob))) : ∀ c : Code, linC (envOf p) c = linC (envOf q) c := by
  intro c
  induction c with
  | seq x y ihx ihy => simp only [linC, ihx, ihy]
  | cond c x y ihx ihy => simp only [linC, ihx, ihy]
  | block id c ih => simp only [linC, ih]
  | loop c ih => simp only [linC, ih]
  | scope c ih => simp only [linC, ih]
  | region id ops draw =>
    have e1 : (envOf p).plan = (envOf q).plan := rfl
    unfold linC
    rw [e1]
    congr 1
    split
    · exact linR_prim p q _ ops
    · exact planR_prim p q _ _ _
  | _ => rfl
def isT0 : Option (D × List Ob) → Bool
  | some (.bool b, _) => b
  | _ => false
theorem isT0_spec {o : Option (D × List Ob)} (h : isT0 o = true) : ∃ T, o = some (.bool true, T) := by
  unfold isT0 at h
  split at h
  · subst h; exact ⟨_, rfl⟩
  · cases h
end Go.Proofs.YtajhgnefcddenaaGreatDoor.Dm
