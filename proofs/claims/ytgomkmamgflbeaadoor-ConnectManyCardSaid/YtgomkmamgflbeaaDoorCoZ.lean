/-
  The walk of ConnectTimes.
-/
import Derived.Test.YtgomkmamgflbeaaDoorCoY
import Derived.Test.YtgomkmamgflbeaaDoorCoE
import Derived.Test.YtgomkmamgflbeaaDoorFrameO
namespace Go.Proofs.YtgomkmamgflbeaaDoor
open Go Dm Go.RowKit

theorem agg_cnns : aggT Tryd.prog 22 = some false := by kernel_rfl
theorem agg_sgm : aggT Tryd.prog 24 = some true := by kernel_rfl
theorem cnR_of {l : List Cnn} (h : ∀ c ∈ l, c.Ok) : ∃ N, ∀ c ∈ l, CnR N c := by
  refine bound_all (P := fun (c : Cnn) n => CnR n c) (fun a m n h h' => ⟨⟨by have := h'.1.1; omega, by have := h'.1.2.1; omega, by have := h'.1.2.2; omega⟩, h'.2⟩) l fun c hc => ?_
  obtain ⟨h1, h2, h3, -⟩ := h c hc
  exact ⟨c.a.size + c.i.size + c.o.size + 20, ⟨by omega, by omega, by omega⟩, h1, h2, h3⟩
theorem ConnectTimes_walk {W : World} {xs : List D} {vs : Array Value} (ht : TVs Tryd.prog [22, 24, 24] xs) (hv : VRs W ⟨Tryd.prog, fun _ => none, fun g => g < W.heap.size⟩ xs vs.toList) (hp : pureL xs = true) :
    Calls Tryd.prog 3 vs W fun e W' => e = .returned (.bool true) ∧ Below W.heap.size W W' := by
  obtain ⟨d, _, rfl, h1, ht⟩ := ht.inv
  obtain ⟨d2, _, rfl, h2, ht⟩ := ht.inv
  obtain ⟨d3, _, rfl, h3, ht⟩ := ht.inv
  have := ht.inv0
  subst this
  obtain ⟨v1, v2, v3, hvs⟩ : ∃ v1 v2 v3, vs.toList = [v1, v2, v3] := by
    have := hv.1
    match vs.toList, this with
    | [v1, v2, v3], _ => exact ⟨v1, v2, v3, rfl⟩
  rw [hvs] at hv
  have r1 := hv.head
  have r2 := hv.tail.head
  have r3 := hv.tail.tail.head
  obtain ⟨l, x, ⟨ok1, len1⟩, q1⟩ := slices_rel (enc := Cnn.enc) Tryd.underlying22 cells_Cnn (fun c h => Cnn_of h) (h1.one agg_cnns)
  obtain ⟨c2, rfl, t2⟩ := h2.agg agg_sgm
  obtain ⟨p, e2, ok2⟩ := Sgm_of t2
  obtain ⟨c3, rfl, t3⟩ := h3.agg agg_sgm
  obtain ⟨q, e3, ok3⟩ := Sgm_of t3
  obtain ⟨N, hN⟩ := cnR_of ok1
  obtain ⟨r, T, hT, rfl⟩ := ConnectTimes_d (n := N + 400) (by omega) (l := l) (x := x) (p := p) (q := q) len1 (fun c hc => by
    have k := hN c hc
    exact ⟨⟨by have := k.1.1; omega, by have := k.1.2.1; omega, by have := k.1.2.2; omega⟩, k.2⟩)
  refine true_of_dcall envOk (I := fun g => g < W.heap.size) hT (fun g h => h) (fun g cs hg => by cases hg) ?_
  rw [hvs]
  exact VRs.cons (q1 _ _ _ r1) (VRs.cons (agg_rel e2 r2) (VRs.cons (agg_rel e3 r3) VRs.nil))
end Go.Proofs.YtgomkmamgflbeaaDoor
