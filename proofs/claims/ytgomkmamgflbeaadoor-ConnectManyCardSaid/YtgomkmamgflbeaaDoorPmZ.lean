/-
  The walk of ConnectMany.
-/
import Derived.Test.YtgomkmamgflbeaaDoorCoZ
import Derived.Test.YtgomkmamgflbeaaDoorPmN
namespace Go.Proofs.YtgomkmamgflbeaaDoor
open Go Dm Go.RowKit

theorem u8_bd {n : Int} (h : (Lit.int .u8 n).wf = true) : 0 ≤ n ∧ n ≤ 255 := by
  unfold Lit.wf at h
  rw [Bool.and_eq_true, decide_eq_true_eq, decide_eq_true_eq] at h
  exact h
theorem ConnectMany_walk {W : World} {xs : List D} {vs : Array Value} (ht : TVs Tryd.prog [5, 3] xs) (hv : VRs W ⟨Tryd.prog, fun _ => none, fun g => g < W.heap.size⟩ xs vs.toList) (hp : pureL xs = true) :
    Calls Tryd.prog 6 vs W fun e W' => e = .returned (.bool true) ∧ Below W.heap.size W W' := by
  obtain ⟨d, _, rfl, h1, ht⟩ := ht.inv
  obtain ⟨d2, _, rfl, h2, ht⟩ := ht.inv
  have := ht.inv0
  subst this
  obtain ⟨v, rfl, z1⟩ := h1.toInt Tryd.underlying5
  obtain ⟨mo, rfl, z2⟩ := h2.toInt Tryd.underlying3
  obtain ⟨b1, b2⟩ := u8_bd z1
  obtain ⟨r, T, hT, rfl⟩ := ConnectMany_d (n := 4000) (by omega) b1 b2 (mo := mo)
  exact true_of_dcall envOk (I := fun g => g < W.heap.size) hT (fun g h => h) (fun g cs hg => by cases hg) hv
end Go.Proofs.YtgomkmamgflbeaaDoor
