/-
  The walk of ConnectValid.
-/
import Derived.Test.YtgomkmamgflbeaaDoorPlY
import Derived.Test.YtgomkmamgflbeaaDoorCoV
import Derived.Test.YtgomkmamgflbeaaDoorCoZ
namespace Go.Proofs.YtgomkmamgflbeaaDoor
open Go Dm Go.RowKit

theorem agg_plc : aggT Tryd.prog 36 = some true := by kernel_rfl
theorem agg_sgms : aggT Tryd.prog 26 = some false := by kernel_rfl
theorem aptR_of {l : List Apt} (h : ∀ c ∈ l, c.Ok) : ∃ N, ∀ c ∈ l, AptR N c := by
  refine bound_all (P := fun (c : Apt) n => AptR n c) (fun a m n h h' => ⟨⟨by have := h'.1.1; omega, by have := h'.1.2.1; omega, by have := h'.1.2.2; omega⟩, h'.2⟩) l fun c hc => ?_
  obtain ⟨h1, h2, h3, -⟩ := h c hc
  exact ⟨c.code.size + c.city.size + c.ctry.size + 20, ⟨by omega, by omega, by omega⟩, h1, h2, h3⟩
theorem AptR_mono {c : Apt} {m n : Nat} (h : AptR m c) (hn : m ≤ n) : AptR n c := ⟨⟨by have := h.1.1; omega, by have := h.1.2.1; omega, by have := h.1.2.2; omega⟩, h.2⟩
theorem ConnectValid_walk {W : World} {xs : List D} {vs : Array Value} (ht : TVs Tryd.prog [36, 22, 26] xs) (hv : VRs W ⟨Tryd.prog, fun _ => none, fun g => g < W.heap.size⟩ xs vs.toList) (hp : pureL xs = true) :
    Calls Tryd.prog 4 vs W fun e W' => e = .returned (.bool true) ∧ Below W.heap.size W W' := by
  obtain ⟨d, _, rfl, h1, ht⟩ := ht.inv
  obtain ⟨d2, _, rfl, h2, ht⟩ := ht.inv
  obtain ⟨d3, _, rfl, h3, ht⟩ := ht.inv
  have := ht.inv0
  subst this
  obtain ⟨v1, v2, v3, hvs⟩ : ∃ v1 v2 v3, vs.toList = [v1, v2, v3] := by
    have := hv.1
    match vs.toList, this with
    | [v1, v2, v3], _ => exact ⟨v1, v2, v3, rfl⟩
  rw [hvs] at hv
  have r1 := hv.head
  have r2 := hv.tail.head
  have r3 := hv.tail.tail.head
  obtain ⟨c1, rfl, t1⟩ := h1.agg agg_plc
  obtain ⟨p, e1, ok1⟩ := Plc_of t1
  obtain ⟨l, x, ⟨ok2, len2⟩, q2⟩ := slices_rel (enc := Cnn.enc) Tryd.underlying22 cells_Cnn (fun c h => Cnn_of h) (h2.one agg_cnns)
  obtain ⟨s, y, ⟨ok3, len3⟩, q3⟩ := slices_rel (enc := Sgm.enc) Tryd.underlying26 cells_Sgm (fun c h => Sgm_of h) (h3.one agg_sgms)
  obtain ⟨⟨oa, la⟩, ⟨ob, lb⟩, -⟩ := ok1
  obtain ⟨N, hN⟩ := aptR_of oa
  obtain ⟨r, T, hT, rfl⟩ := ConnectValid_d (n := N + s.length + 1100) (by omega) (p := p) (l := l) (x := x) (y := y) (segs := s) la lb len2 len3 (by omega) (fun c hc => AptR_mono (hN c hc) (by omega))
  refine true_of_dcall envOk (I := fun g => g < W.heap.size) hT (fun g h => h) (fun g cs hg => by cases hg) ?_
  rw [hvs]
  exact VRs.cons (agg_rel e1 r1) (VRs.cons (q2 _ _ _ r2) (VRs.cons (q3 _ _ _ r3) VRs.nil))
end Go.Proofs.YtgomkmamgflbeaaDoor
