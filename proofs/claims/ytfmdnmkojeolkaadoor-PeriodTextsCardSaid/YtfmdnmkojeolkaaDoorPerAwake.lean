/-
  The walk of layer 4's awake: the examples of the chapter hold.
-/
import Derived.Test.YtfmdnmkojeolkaaDoorPerPrint
namespace Go.Proofs.YtfmdnmkojeolkaaDoor
open Go.RowKit Go.Shelf

theorem pw_normal (w : World) : Calls Tryd.prog 32 #[.agg #[.int .i64 9497, .int .i64 9503, .int .i64 96]] w fun e w' => e = .returned (.tuple #[.agg #[.int .i64 9499, .int .i64 9500, .int .i64 96], .bool true]) ∧ Below w.heap.size w w' := by
  have h := Normal_any ⟨9497, 9503, 96⟩ w
  have e : canonV (Per.days ⟨9497, 9503, 96⟩) = .tuple #[.agg #[.int .i64 9499, .int .i64 9500, .int .i64 96], .bool true] := by kernel_rfl
  rw [e] at h
  exact h
theorem pw_print (w : World) (hl : HasLen w) : Calls Tryd.prog 51 #[.agg #[.int .i64 9497, .int .i64 9503, .int .i64 96]] w fun e w' => e = .returned (.string ⟨#[50, 48, 50, 54, 45, 48, 49, 45, 48, 49, 47, 50, 48, 50, 54, 45, 48, 49, 45, 48, 55, 47, 54, 55]⟩) ∧ Below w.heap.size w w' := by
  have h := PPrint_any ⟨9497, 9503, 96⟩ w hl
  have e : pprint ⟨9497, 9503, 96⟩ = ⟨#[50, 48, 50, 54, 45, 48, 49, 45, 48, 49, 47, 50, 48, 50, 54, 45, 48, 49, 45, 48, 55, 47, 54, 55]⟩ := by kernel_rfl
  rw [e] at h
  exact h

/-- What can be read of a slice of periods. -/
theorem row_cell {W : World} {n₀ : Nat} {e : TypeId} {size : Nat} {v : Value} {k : Nat} {xs : List Value} (h : W.ownsRow n₀ e size v k xs) (hk : 0 < k) :
    ∃ g cap, v = .slice (some ⟨g, 0, none⟩) k cap ∧ n₀ ≤ g ∧ k ≤ cap ∧ cap ≤ maxLen ∧ g < W.heap.size ∧ ∀ j u, xs[j]? = some u → W.cell? ⟨g, j, none⟩ = some u := by
  obtain ⟨hx, h⟩ := h
  rcases h with ⟨-, rfl⟩ | ⟨g, cap, cur, rfl, hg, hb, hkc, hcm, hcur, htake⟩
  · omega
  refine ⟨g, cap, rfl, hg, hkc, hcm, (Array.getElem?_eq_some_iff.1 hb).1, ?_⟩
  intro j u hj
  subst htake
  have hjl : j < k * size := by
    rw [← hx]
    rcases Nat.lt_or_ge j (List.take (k * size) cur.toList).length with h0 | h0
    · exact h0
    · rw [List.getElem?_eq_none h0] at hj; cases hj
  rw [List.getElem?_take_of_lt hjl, Array.getElem?_toList] at hj
  simp [World.cell?, hb, hj]

theorem pw_without (w : World) : Calls Tryd.prog 37 #[.agg #[.int .i64 9497, .int .i64 9510, .int .i64 127], .agg #[.int .i64 9500, .int .i64 9503, .int .i64 64]] w fun e w' => ∃ g cap, e = .returned (.slice (some ⟨g, 0, none⟩) 3 cap) ∧ 3 ≤ cap ∧ w'.cell? ⟨g, 3, none⟩ = some (.int .i64 9501) ∧ w'.cell? ⟨g, 4, none⟩ = some (.int .i64 9503) ∧ w'.cell? ⟨g, 5, none⟩ = some (.int .i64 7) ∧ g < w'.heap.size ∧ Below w.heap.size w w' := by
  refine (Without_any ⟨9497, 9510, 127⟩ ⟨9500, 9503, 64⟩ w).mono ?_
  rintro e w' ⟨v, rfl, hr, hb⟩
  have e1 : (outs ⟨9497, 9510, 127⟩ ⟨9500, 9503, 64⟩).length = 3 := by kernel_rfl
  have e2 : cellsOf (outs ⟨9497, 9510, 127⟩ ⟨9500, 9503, 64⟩) = [.int .i64 9497, .int .i64 9499, .int .i64 56, .int .i64 9501, .int .i64 9503, .int .i64 7, .int .i64 9504, .int .i64 9510, .int .i64 127] := by kernel_rfl
  rw [e1, e2] at hr
  obtain ⟨g, cap, rfl, hg, hk, hm, hlt, hc⟩ := row_cell hr (by decide)
  exact ⟨g, cap, rfl, hk, hc 3 _ rfl, hc 4 _ rfl, hc 5 _ rfl, hlt, hb⟩

set_option maxHeartbeats 1000000 in
theorem pawake_any (w : World) (hl : HasLen w) : Calls Tryd.prog 39 #[] w fun e w' => e = .returned (.bool true) ∧ Below w.heap.size w w' := by
  go_enter Tryd.func39, Tryd.ntmps39
  go_wp2_with fail
  refine (pw_normal _).mono ?_
  rintro e w1 ⟨rfl, hb1⟩
  have hl1 := hl.below hb1
  go_wp2_with fail
  refine (pw_without _).mono ?_
  rintro e w2 ⟨g, cap, rfl, hcap, hc3, hc4, hc5, hg, hb2⟩
  have hN := (Box3.new w1 37 (.int .i64 9499) (.int .i64 9500) (.int .i64 96)).below hb2 (by simp)
  have hn0 := hN.c0; have hn1 := hN.c1; have hn2 := hN.c2
  have hB1 := hb1.alloc hb1.size (.cells #[.int .i64 9499, .int .i64 9500, .int .i64 96] 37)
  have hB := hB1.trans (hb2.mono hB1.size)
  have hl2 := hl.below hB
  go_wp2_with (go_at_call 51; refine (pw_print _ (by assumption)).mono ?_; rintro e w3 ⟨rfl, hb3⟩)
  go_ret
  exact ⟨rfl, hB.trans (hb3.mono hB.size)⟩
end Go.Proofs.YtfmdnmkojeolkaaDoor
