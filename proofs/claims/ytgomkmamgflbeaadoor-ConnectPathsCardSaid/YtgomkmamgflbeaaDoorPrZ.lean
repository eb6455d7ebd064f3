/-
  The walk of ConnectPaths.
-/
import Derived.Test.YtgomkmamgflbeaaDoorPfZ
import Derived.Test.YtgomkmamgflbeaaDoorPrA
namespace Go.Proofs.YtgomkmamgflbeaaDoor
open Go Dm Go.RowKit

theorem ConnectPaths_walk {W : World} {xs : List D} {vs : Array Value} (ht : TVs Tryd.prog [42, 9, 9, 3] xs) (hv : VRs W ⟨Tryd.prog, fun _ => none, fun g => g < W.heap.size⟩ xs vs.toList) (hp : pureL xs = true) :
    Calls Tryd.prog 5 vs W fun e W' => e = .returned (.bool true) ∧ Below W.heap.size W W' := by
  obtain ⟨d1, _, rfl, h1, ht⟩ := ht.inv
  obtain ⟨d2, _, rfl, h2, ht⟩ := ht.inv
  obtain ⟨d3, _, rfl, h3, ht⟩ := ht.inv
  obtain ⟨d4, _, rfl, h4, ht⟩ := ht.inv
  have := ht.inv0
  subst this
  obtain ⟨v1, v2, v3, v4, hvs⟩ : ∃ v1 v2 v3 v4, vs.toList = [v1, v2, v3, v4] := by
    have := hv.1
    match vs.toList, this with
    | [v1, v2, v3, v4], _ => exact ⟨v1, v2, v3, v4, rfl⟩
  rw [hvs] at hv
  have r1 := hv.head
  have r2 := hv.tail.head
  have r3 := hv.tail.tail.head
  have r4 := hv.tail.tail.tail.head
  obtain ⟨c2, rfl, t2⟩ := h1.agg agg_cas
  obtain ⟨⟨l, x, s, y⟩, e2, ok2⟩ := Cas_of t2
  obtain ⟨fr, rfl, z2⟩ := h2.toStr Tryd.underlying9
  obtain ⟨to, rfl, z3⟩ := h3.toStr Tryd.underlying9
  obtain ⟨mo, rfl, z4⟩ := h4.toInt Tryd.underlying3
  obtain ⟨⟨oc, lc⟩, ⟨od, ld⟩, -⟩ := ok2
  obtain ⟨r, T, hT, rfl⟩ := ConnectPaths_d (n := s.length + 41000) (by omega) (l := l) (x := x) (y := y) (segs := s) (fr := fr) (to := to) (mo := mo) lc ld (by omega)
  refine true_of_dcall envOk (I := fun g => g < W.heap.size) hT (fun g h => h) (fun g cs hg => by cases hg) ?_
  rw [hvs]
  exact VRs.cons (agg_rel e2 r1) (VRs.cons r2 (VRs.cons r3 (VRs.cons r4 VRs.nil)))
end Go.Proofs.YtgomkmamgflbeaaDoor
