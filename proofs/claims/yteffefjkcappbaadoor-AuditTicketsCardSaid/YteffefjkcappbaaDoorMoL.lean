/-
  The machine at the reference's look for amounts that are too large.
-/
import Derived.Test.YteffefjkcappbaaDoorMoV
namespace Go.Proofs.YteffefjkcappbaaDoor.Dm
open Go
set_option linter.unusedSimpArgs false

structure Pst where
  nm : ByteArray
  amt : Int
def Pst.enc (p : Pst) : List D := [.str p.nm, .int .i64 p.amt]
def badP (p : Pst) : Prop := p.amt < -1125899906842624 ∨ 1125899906842624 < p.amt
instance (p : Pst) : Decidable (badP p) := inferInstanceAs (Decidable (_ ∨ _))
def anyP : List Pst → Bool
  | [] => false
  | p :: l => if badP p then true else anyP l
def anyC : List Cpn → Bool
  | [] => false
  | c :: l => if badV c then true else anyC l
def anyT : List Tkt → Bool
  | [] => false
  | t :: l => if anyC t.six = true then true else anyT l
end Go.Proofs.YteffefjkcappbaaDoor.Dm
