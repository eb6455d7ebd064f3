/-
  The machine at the program's inventory: what is sold, class by class.
-/
import Derived.Test.YtajhgnefcddenaaDoorSkO
namespace Go.Proofs.YtajhgnefcddenaaDoor.Dm
open Go Gw
set_option linter.unusedSimpArgs false
set_option linter.unusedSimpArgs false

abbrev encC (p : ByteArray × Int) : List D := [.str p.1, .int .i64 p.2]
theorem KeepO.ext {o : Nat} {S T : List Ob} {lab : Lab} (h : ExtS S T) : KeepO o S lab T lab := fun x ob _ hx hl => ⟨h x ob hx, hl⟩
def cntQ (x : Leg) (q : Nat × Nat × Cls) : ByteArray × Int := (q.2.2.code, soldAt x.sold q.1 q.2.1)
section
variable {S : List Ob} {lab : Lab} {o k m n : Nat} {s : Stk} {ps : List (D × D)} {id : Lid}
end
end Go.Proofs.YtajhgnefcddenaaDoor.Dm
