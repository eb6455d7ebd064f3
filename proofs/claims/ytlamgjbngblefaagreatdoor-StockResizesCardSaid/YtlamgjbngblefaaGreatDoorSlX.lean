/-
  The walks of StockExact and StockResizes in the model.
-/
import Derived.Test.YtlamgjbngblefaaGreatDoorSlL
import Derived.Test.YtlamgjbngblefaaGreatDoorSkH
namespace Go.Proofs.YtlamgjbngblefaaGreatDoor
open Go Go.ChangeShapes Go.WideShapes Go.ChangeAt Go.RowKit Dm
theorem StockExact_walk {W : World} {xs : List D} {vs : Array Value} (ht : TVs Tryz.prog [22, 23, 5, 5] xs) (hv : VRs W ⟨Tryz.prog, fun _ => none, fun g => g < W.heap.size⟩ xs vs.toList) (hp : pureL xs = true) :
    Calls Tryz.prog 7 vs W fun e W' => e = .returned (.bool true) ∧ Below W.heap.size W W' := by
  obtain ⟨d1, _, rfl, h1, ht⟩ := ht.inv
  obtain ⟨d2, _, rfl, h2, ht⟩ := ht.inv
  obtain ⟨g, _, rfl, hg, ht⟩ := TVs.int1 Tryz.underlying5 ht
  obtain ⟨k, _, rfl, hk, ht⟩ := TVs.int1 Tryz.underlying5 ht
  have := ht.inv0
  subst this
  have hgb := u8_bd hg
  have hkb := u8_bd hk
  obtain ⟨g, rfl⟩ : ∃ n : Nat, g = n := ⟨g.toNat, by omega⟩
  obtain ⟨k, rfl⟩ : ∃ n : Nat, k = n := ⟨k.toNat, by omega⟩
  obtain ⟨v1, v2, v3, v4, hvs⟩ : ∃ v1 v2 v3 v4, vs.toList = [v1, v2, v3, v4] := by
    have := hv.1
    match vs.toList, this with
    | [v1, v2, v3, v4], _ => exact ⟨v1, v2, v3, v4, rfl⟩
  rw [hvs] at hv
  have r1 := hv.head
  have r2 := hv.tail.head
  obtain ⟨n, hn⟩ : ∃ n : Nat, 9223372036854775807 + 5000 ≤ n := ⟨_, Nat.le_refl _⟩
  obtain ⟨l, lx, z1, w1⟩ := Cfgs_front h1 hn
  obtain ⟨acts, ax, z2, w2⟩ := Acts_front h2
  obtain ⟨T, hT⟩ := StockExact_d (n := n) (g := g) (kc := k) (lx := lx) (ax := ax) (by omega) (by omega) (by omega) z1 z2
  refine true_of_dcall envOk (I := fun g => g < W.heap.size) hT (fun g h => h) (fun g cs hg => by cases hg) ?_
  rw [hvs]
  exact VRs.cons (w1 _ _ _ r1) (VRs.cons (w2 _ _ _ r2) hv.tail.tail)
theorem StockResizes_walk {W : World} {xs : List D} {vs : Array Value} (ht : TVs Tryz.prog [22, 23, 56] xs) (hv : VRs W ⟨Tryz.prog, fun _ => none, fun g => g < W.heap.size⟩ xs vs.toList) (hp : pureL xs = true) :
    Calls Tryz.prog 9 vs W fun e W' => e = .returned (.bool true) ∧ Below W.heap.size W W' := by
  obtain ⟨d1, _, rfl, h1, ht⟩ := ht.inv
  obtain ⟨d2, _, rfl, h2, ht⟩ := ht.inv
  obtain ⟨d3, _, rfl, h3, ht⟩ := ht.inv
  have := ht.inv0
  subst this
  obtain ⟨v1, v2, v3, hvs⟩ : ∃ v1 v2 v3, vs.toList = [v1, v2, v3] := by
    have := hv.1
    match vs.toList, this with
    | [v1, v2, v3], _ => exact ⟨v1, v2, v3, rfl⟩
  rw [hvs] at hv
  have r1 := hv.head
  have r2 := hv.tail.head
  have r3 := hv.tail.tail.head
  obtain ⟨n, hn⟩ : ∃ n : Nat, 9223372036854775807 + 5000 ≤ n := ⟨_, Nat.le_refl _⟩
  obtain ⟨l, lx, z1, w1⟩ := Cfgs_front h1 hn
  obtain ⟨acts, ax, z2, w2⟩ := Acts_front h2
  obtain ⟨c, rfl, hc⟩ : ∃ c, d3 = .agg c ∧ TC Tryz.prog 56 c := by
    rcases h3 with ⟨-, c, e, hc⟩ | ⟨hg, -⟩
    · exact ⟨c, e, hc⟩
    · have : aggT Tryz.prog 56 = some true := by kernel_rfl
      rw [this] at hg
      cases hg
  obtain ⟨a, ha, hok⟩ := Cal_of hc
  obtain ⟨T, hT⟩ := StockResizes_d (n := n) (a := a) (lx := lx) (ax := ax) (by omega) hok z1 z2
  refine true_of_dcall envOk (I := fun g => g < W.heap.size) hT (fun g h => h) (fun g cs hg => by cases hg) ?_
  rw [hvs]
  refine VRs.cons (w1 _ _ _ r1) (VRs.cons (w2 _ _ _ r2) (VRs.cons ?_ VRs.nil))
  obtain ⟨us, rfl, hus⟩ := r3.of_agg
  have := VR.agg_of (W := W) (C := ⟨Tryz.prog, fun _ => none, fun g => g < W.heap.size⟩) (cs := a.enc) (vs := us.toList) ⟨ha.1.trans hus.1, fun j d u hd hu => ?_⟩
  · change VR W ⟨Tryz.prog, fun _ => none, fun g => g < W.heap.size⟩ (.agg a.enc) (.agg us)
    simpa using this
  · obtain ⟨c', hc'⟩ : ∃ c', c[j]? = some c' := ⟨c[j]'(by have := (List.getElem?_eq_some_iff.1 hu).1; rw [hus.1]; exact this), by simp⟩
    exact (ha.2 j c' d hc' hd).2 _ _ _ (hus.2 j c' u hc' hu)
end Go.Proofs.YtlamgjbngblefaaGreatDoor
