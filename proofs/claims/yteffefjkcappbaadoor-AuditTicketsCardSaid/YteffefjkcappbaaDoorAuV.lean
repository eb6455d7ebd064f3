/-
  The machine at Verify of a journal and of its reference: both hand back one pair of numbers.
-/
import Derived.Test.YteffefjkcappbaaDoorAuS
namespace Go.Proofs.YteffefjkcappbaaDoor.Dm
open Go
set_option linter.unusedSimpArgs false

structure Rec where
  n : Int
  t : ByteArray
  s : Int
def Rec.enc (r : Rec) : List D := [.int .i64 r.n, .str r.t, .int .i64 r.s]
def verR (i : Nat) (sum : Int) : List Rec → Int × Int
  | [] => (i, 0)
  | r :: l => if r.n ≠ i + 1 then (i + 1, 29) else if 65536 < r.t.size then (i + 1, 4) else if r.s ≠ sumR sum r.t then (i + 1, 37) else verR (i + 1) r.s l
theorem set_end {α : Type} {l : List α} {x y : α} : (l ++ [x]).set l.length y = l ++ [y] := by simp
theorem get_end {α : Type} {l : List α} {x : α} : (l ++ [x])[l.length]? = some x := by simp
end Go.Proofs.YteffefjkcappbaaDoor.Dm
