/-
  The machine at the predicates of texts: the program's and the reference's.
  The machine at codes: the program's and the reference's say the same.
-/
import Derived.Test.YtajhgnefcddenaaDoorWq
namespace Go.Proofs.YtajhgnefcddenaaDoor.Dm
open Go
set_option linter.unusedSimpArgs false

def callV (E : Env) (call : Call) (dr : Bool) (S : List Ob) (d : D) (l : List D) : Option (D × List Ob) :=
  match d with
  | .func g first cap => if dr && !(decide (E.mode g = .pure) || decide (E.mode g = .obs)) then none else callD E call dr S g (first ++ l ++ cap)
  | _ => none
theorem wo_callv {E : Env} {call : Call} {dr : Bool} {ev : Operand → D} {S : List Ob} {t : Tmp} {args : Array Operand} {tys : Array TypeId} {Q : D → List Ob → Prop} :
    WO (dOp E call dr ev S (.call { callee := .value (.tmp t), args := args, argTypes := tys })) Q = WO (callV E call dr S (ev (.tmp t)) (args.toList.map ev)) Q := rfl
theorem callV_func {E : Env} {call : Call} {S : List Ob} {g : FuncId} {x y l : List D} : callV E call false S (.func g x y) l = callD E call false S g (x ++ l ++ y) := by
  simp [callV]
def capB (b : UInt8) : Bool := decide (65 ≤ b.toNat) && decide (b.toNat ≤ 90)
def digB (b : UInt8) : Bool := decide (48 ≤ b.toNat) && decide (b.toNat ≤ 57)
def cdB (b : UInt8) : Bool := capB b || digB b
def evr (p : UInt8 → Bool) (s : ByteArray) : Nat → Bool
  | 0 => true
  | i + 1 => evr p s i && p ((s[i]?).getD 0)
/-- A text of least to most capital letters and digits. -/
def codeS (s : ByteArray) (least most : Int) : Bool := decide (least ≤ s.size) && decide ((s.size : Int) ≤ most) && evr cdB s s.size
/-- A text of so many capital letters. -/
def lettS (s : ByteArray) (k : Nat) : Bool := decide (s.size = k) && evr capB s s.size
end Go.Proofs.YtajhgnefcddenaaDoor.Dm
