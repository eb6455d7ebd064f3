/-
  A request as plain data.
-/
import Derived.Test.YtajhgnefcddenaaDoorSkT
namespace Go.Proofs.YtajhgnefcddenaaDoor.Dm
open Go Gw
set_option linter.unusedSimpArgs false

structure Wt where
  id : Int
  legs : List Lid
  legsx : Bool
  cl : ByteArray
  cnt : Int
  rk : Int
def Wt.enc (r : Wt) : List D := [.int .i64 r.id, .sl 4 (r.legs.map Lid.enc) r.legsx, .str r.cl, .int .i64 r.cnt, .int .i64 r.rk]
theorem Wt_pure (r : Wt) : pureL r.enc = true := by
  simp only [D.pure, pureL_cons, pureL_nil, Bool.and_true, Bool.and_self, Wt.enc, Lids_pure]
/-- What is said of data of this type. -/
def Wt.Ok (r : Wt) : Prop := (-9223372036854775808 ≤ r.id ∧ r.id ≤ 9223372036854775807) ∧ ((∀ e ∈ r.legs, e.Ok) ∧ r.legs.length ≤ 9223372036854775807) ∧ r.cl.size ≤ 9223372036854775807 ∧ (-9223372036854775808 ≤ r.cnt ∧ r.cnt ≤ 9223372036854775807) ∧ (-9223372036854775808 ≤ r.rk ∧ r.rk ≤ 9223372036854775807) ∧ True
end Go.Proofs.YtajhgnefcddenaaDoor.Dm
