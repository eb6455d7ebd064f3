/-
  The law PeriodTexts, walked: periods are written and read, or the error is returned.
-/
import Derived.Test.YtfmdnmkojeolkaaDoorRefParse
import Derived.Test.YtfmdnmkojeolkaaDoorRefPrint
import Derived.Test.YtfmdnmkojeolkaaDoorPerDays
namespace Go.Proofs.YtfmdnmkojeolkaaDoor
open Go.RowKit Go.Shelf

theorem s3t_drew {w w1 : World} {B0 B1 B2 : Nat} {p0 p1 p2 : Per.P} (h : (w1.cell? ⟨B0, 0, none⟩ = some (.int .i64 p0.f) ∧ w1.cell? ⟨B0, 1, none⟩ = some (.int .i64 p0.t) ∧ w1.cell? ⟨B0, 2, none⟩ = some (.int .i64 p0.d)) ∧ (w1.cell? ⟨B1, 0, none⟩ = some (.int .i64 p1.f) ∧ w1.cell? ⟨B1, 1, none⟩ = some (.int .i64 p1.t) ∧ w1.cell? ⟨B1, 2, none⟩ = some (.int .i64 p1.d)) ∧ (w1.cell? ⟨B2, 0, none⟩ = some (.int .i64 p2.f) ∧ w1.cell? ⟨B2, 1, none⟩ = some (.int .i64 p2.t) ∧ w1.cell? ⟨B2, 2, none⟩ = some (.int .i64 p2.d)) ∧ HasLen w1 ∧ Below w.heap.size w w1 ∧ B0 < w1.heap.size ∧ B1 < w1.heap.size ∧ B2 < w1.heap.size ∧ w.heap.size ≤ w1.heap.size) : (w1.drew.cell? ⟨B0, 0, none⟩ = some (.int .i64 p0.f) ∧ w1.drew.cell? ⟨B0, 1, none⟩ = some (.int .i64 p0.t) ∧ w1.drew.cell? ⟨B0, 2, none⟩ = some (.int .i64 p0.d)) ∧ (w1.drew.cell? ⟨B1, 0, none⟩ = some (.int .i64 p1.f) ∧ w1.drew.cell? ⟨B1, 1, none⟩ = some (.int .i64 p1.t) ∧ w1.drew.cell? ⟨B1, 2, none⟩ = some (.int .i64 p1.d)) ∧ (w1.drew.cell? ⟨B2, 0, none⟩ = some (.int .i64 p2.f) ∧ w1.drew.cell? ⟨B2, 1, none⟩ = some (.int .i64 p2.t) ∧ w1.drew.cell? ⟨B2, 2, none⟩ = some (.int .i64 p2.d)) ∧ HasLen w1.drew ∧ Below w.heap.size w w1.drew ∧ B0 < w1.drew.heap.size ∧ B1 < w1.drew.heap.size ∧ B2 < w1.drew.heap.size ∧ w.heap.size ≤ w1.drew.heap.size := by
  obtain ⟨h0, h1, h2, hl, hB, hs⟩ := h
  exact ⟨h0, h1, h2, hl, hB.drew, hs⟩
theorem s3t_bw {w w1 w2 : World} {B0 B1 B2 : Nat} {p0 p1 p2 : Per.P} (h : (w1.cell? ⟨B0, 0, none⟩ = some (.int .i64 p0.f) ∧ w1.cell? ⟨B0, 1, none⟩ = some (.int .i64 p0.t) ∧ w1.cell? ⟨B0, 2, none⟩ = some (.int .i64 p0.d)) ∧ (w1.cell? ⟨B1, 0, none⟩ = some (.int .i64 p1.f) ∧ w1.cell? ⟨B1, 1, none⟩ = some (.int .i64 p1.t) ∧ w1.cell? ⟨B1, 2, none⟩ = some (.int .i64 p1.d)) ∧ (w1.cell? ⟨B2, 0, none⟩ = some (.int .i64 p2.f) ∧ w1.cell? ⟨B2, 1, none⟩ = some (.int .i64 p2.t) ∧ w1.cell? ⟨B2, 2, none⟩ = some (.int .i64 p2.d)) ∧ HasLen w1 ∧ Below w.heap.size w w1 ∧ B0 < w1.heap.size ∧ B1 < w1.heap.size ∧ B2 < w1.heap.size ∧ w.heap.size ≤ w1.heap.size) (hb : Below w1.heap.size w1 w2) : (w2.cell? ⟨B0, 0, none⟩ = some (.int .i64 p0.f) ∧ w2.cell? ⟨B0, 1, none⟩ = some (.int .i64 p0.t) ∧ w2.cell? ⟨B0, 2, none⟩ = some (.int .i64 p0.d)) ∧ (w2.cell? ⟨B1, 0, none⟩ = some (.int .i64 p1.f) ∧ w2.cell? ⟨B1, 1, none⟩ = some (.int .i64 p1.t) ∧ w2.cell? ⟨B1, 2, none⟩ = some (.int .i64 p1.d)) ∧ (w2.cell? ⟨B2, 0, none⟩ = some (.int .i64 p2.f) ∧ w2.cell? ⟨B2, 1, none⟩ = some (.int .i64 p2.t) ∧ w2.cell? ⟨B2, 2, none⟩ = some (.int .i64 p2.d)) ∧ HasLen w2 ∧ Below w.heap.size w w2 ∧ B0 < w2.heap.size ∧ B1 < w2.heap.size ∧ B2 < w2.heap.size ∧ w.heap.size ≤ w2.heap.size := by
  obtain ⟨⟨a0, b0, c0⟩, ⟨a1, b1, c1⟩, ⟨a2, b2, c2⟩, hl, hB, s0, s1, s2, hz⟩ := h
  exact ⟨⟨(hb.cell (p := ⟨B0, 0, none⟩) s0).trans a0, (hb.cell (p := ⟨B0, 1, none⟩) s0).trans b0, (hb.cell (p := ⟨B0, 2, none⟩) s0).trans c0⟩, ⟨(hb.cell (p := ⟨B1, 0, none⟩) s1).trans a1, (hb.cell (p := ⟨B1, 1, none⟩) s1).trans b1, (hb.cell (p := ⟨B1, 2, none⟩) s1).trans c1⟩, ⟨(hb.cell (p := ⟨B2, 0, none⟩) s2).trans a2, (hb.cell (p := ⟨B2, 1, none⟩) s2).trans b2, (hb.cell (p := ⟨B2, 2, none⟩) s2).trans c2⟩, hl.below hb, hB.trans (hb.mono hz), Nat.lt_of_lt_of_le s0 hb.size, Nat.lt_of_lt_of_le s1 hb.size, Nat.lt_of_lt_of_le s2 hb.size, Nat.le_trans hz hb.size⟩

theorem s3t_len {W : World} {A B C E : Prop} (h : A ∧ B ∧ C ∧ HasLen W ∧ E) : HasLen W := h.2.2.2.1
theorem pprint_size (p : Per.P) : (pprint p).size ≤ 200 := by
  unfold pprint
  split
  · have h1 := print_size p.f
    have h2 := print_size p.t
    have h3 := wdTo_size p.d 7
    simp only [ByteArray.size_append]
    have : slash.size = 1 := rfl
    omega
  · decide
theorem maxlen_cell {w W : World} {m : Int} (h : w.cell? ⟨1, 0, none⟩ = some (.int .i64 m)) (hb : Below w.heap.size w W) : W.cell? ⟨1, 0, none⟩ = some (.int .i64 m) :=
  (hb.cell (p := ⟨1, 0, none⟩) (World.block_lt_of_cell? _ _ h)).trans h

set_option maxHeartbeats 2000000 in
theorem texts_any (p : Per.P) (s : ByteArray) (m : Int) (w : World) (hl : HasLen w) (hm : w.cell? ⟨1, 0, none⟩ = some (.int .i64 m)) (hsz : s.size ≤ 9223372036854775807) :
    Calls Tryd.prog 14 #[pv p, .string s] w fun e w' => e = .returned (.bool true) ∧ Below w.heap.size w w' := by
  have hP := Box3.new w 37 (.int .i64 p.f) (.int .i64 p.t) (.int .i64 p.d)
  have hB0 := (Below.refl w.heap.size w).alloc (Nat.le_refl _) (.cells #[.int .i64 p.f, .int .i64 p.t, .int .i64 p.d] 37)
  have hz0 : (w.alloc (.cells #[.int .i64 p.f, .int .i64 p.t, .int .i64 p.d] 37)).heap.size = w.heap.size + 1 := by simp
  have HMX := Lib.hid (fun W (hb : Below w.heap.size w W) => maxlen_cell hm hb)
  have HLN := Lib.hid (fun W (hb : Below w.heap.size w W) => hl.below hb)
  clear hm hl
  by_cases hs : s.size ≤ 200
  rotate_left
  · have hs' : (200 : Int) < (s.size : Int) := by omega
    clear hs
    go_enter Tryd.func14, Tryd.ntmps14
    go_wp2_with fail
    refine (pawake_any _ (HLN.out _ hB0)).mono ?_
    rintro e w2 ⟨rfl, hb2⟩
    go_wp2_with fail
    go_ret
    exact ⟨rfl, hB0.trans (hb2.mono hB0.size)⟩
  have hs' : (s.size : Int) ≤ 200 := by omega
  have HS := Lib.hid hs
  clear hs
  go_enter Tryd.func14, Tryd.ntmps14
  go_wp2_with fail
  generalize w.alloc (.cells #[.int .i64 p.f, .int .i64 p.t, .int .i64 p.d] 37) = w3 at *
  obtain ⟨q, hq⟩ : ∃ q, (Per.pp s).1 = q := ⟨_, rfl⟩
  obtain ⟨er, he⟩ : ∃ er, (Per.pp s).2 = er := ⟨_, rfl⟩
  have k1 := fun W (hb : Below w.heap.size w W) => pParse_any s m W (HLN.out _ hb) (HMX.out _ hb) HS.out
  have k2 := fun W => rPParse_any s W HS.out
  unfold parsedV at k1 k2
  rw [hq, he] at k1 k2
  have K1 := Lib.hid k1
  have K2 := Lib.hid k2
  have HQ := Lib.hid hq
  have HE := Lib.hid he
  clear k1 k2 hq he
  refine (K1.out _ hB0).mono ?_
  rintro e w4 ⟨rfl, hb4⟩
  have hP4 := (hP.below hb4 (by omega)).alloc (.cells #[.int .i64 q.f, .int .i64 q.t, .int .i64 q.d] 37)
  have hB4 := (hB0.trans (hb4.mono (by omega))).alloc (by have := hb4.size; omega) (.cells #[.int .i64 q.f, .int .i64 q.t, .int .i64 q.d] 37)
  have hQ4 := Box3.new w4 37 (.int .i64 q.f) (.int .i64 q.t) (.int .i64 q.d)
  have hz4 : (w4.alloc (.cells #[.int .i64 q.f, .int .i64 q.t, .int .i64 q.d] 37)).heap.size = w4.heap.size + 1 := by simp
  have hy4 := hb4.size
  clear hP hB0 hb4
  go_wp2_with fail
  generalize w4.alloc (.cells #[.int .i64 q.f, .int .i64 q.t, .int .i64 q.d] 37) = w5 at *
  refine (K2.out _).mono ?_
  rintro e w6 ⟨rfl, hb6⟩
  have hP6 := (hP4.below hb6 (by omega)).alloc (.cells #[.int .i64 q.f, .int .i64 q.t, .int .i64 q.d] 37)
  have hQ6 := (hQ4.below hb6 (by omega)).alloc (.cells #[.int .i64 q.f, .int .i64 q.t, .int .i64 q.d] 37)
  have hB6 := (hB4.trans (hb6.mono (by omega))).alloc (by have := hb6.size; omega) (.cells #[.int .i64 q.f, .int .i64 q.t, .int .i64 q.d] 37)
  have hX6 := Box3.new w6 37 (.int .i64 q.f) (.int .i64 q.t) (.int .i64 q.d)
  have hz6 : (w6.alloc (.cells #[.int .i64 q.f, .int .i64 q.t, .int .i64 q.d] 37)).heap.size = w6.heap.size + 1 := by simp
  have hy6 := hb6.size
  clear hP4 hQ4 hB4 hb6
  go_wp2_with fail
  generalize w6.alloc (.cells #[.int .i64 q.f, .int .i64 q.t, .int .i64 q.d] 37) = w7 at *
  have hS : (w7.cell? ⟨w.heap.size, 0, none⟩ = some (.int .i64 p.f) ∧ w7.cell? ⟨w.heap.size, 1, none⟩ = some (.int .i64 p.t) ∧ w7.cell? ⟨w.heap.size, 2, none⟩ = some (.int .i64 p.d)) ∧ (w7.cell? ⟨w4.heap.size, 0, none⟩ = some (.int .i64 q.f) ∧ w7.cell? ⟨w4.heap.size, 1, none⟩ = some (.int .i64 q.t) ∧ w7.cell? ⟨w4.heap.size, 2, none⟩ = some (.int .i64 q.d)) ∧ (w7.cell? ⟨w6.heap.size, 0, none⟩ = some (.int .i64 q.f) ∧ w7.cell? ⟨w6.heap.size, 1, none⟩ = some (.int .i64 q.t) ∧ w7.cell? ⟨w6.heap.size, 2, none⟩ = some (.int .i64 q.d)) ∧ HasLen w7 ∧ Below w.heap.size w w7 ∧ w.heap.size < w7.heap.size ∧ w4.heap.size < w7.heap.size ∧ w6.heap.size < w7.heap.size ∧ w.heap.size ≤ w7.heap.size := ⟨⟨hP6.c0, hP6.c1, hP6.c2⟩, ⟨hQ6.c0, hQ6.c1, hQ6.c2⟩, ⟨hX6.c0, hX6.c1, hX6.c2⟩, HLN.out _ hB6, hB6, by omega, by omega, by omega, by omega⟩
  clear hP6 hQ6 hX6 hB6
  have K3 := Lib.hid (fun W (hl : HasLen W) => PPrint_any p W hl)
  have K4 := Lib.hid (fun W => rPPrint_any p W)
  by_cases h0 : er = 0
  rotate_left
  have h0' : (er == 0) = false := by simpa using h0
  clear h0
  refine wp_region_held_drew (S := fun w' => (w'.cell? ⟨w.heap.size, 0, none⟩ = some (.int .i64 p.f) ∧ w'.cell? ⟨w.heap.size, 1, none⟩ = some (.int .i64 p.t) ∧ w'.cell? ⟨w.heap.size, 2, none⟩ = some (.int .i64 p.d)) ∧ (w'.cell? ⟨w4.heap.size, 0, none⟩ = some (.int .i64 q.f) ∧ w'.cell? ⟨w4.heap.size, 1, none⟩ = some (.int .i64 q.t) ∧ w'.cell? ⟨w4.heap.size, 2, none⟩ = some (.int .i64 q.d)) ∧ (w'.cell? ⟨w6.heap.size, 0, none⟩ = some (.int .i64 q.f) ∧ w'.cell? ⟨w6.heap.size, 1, none⟩ = some (.int .i64 q.t) ∧ w'.cell? ⟨w6.heap.size, 2, none⟩ = some (.int .i64 q.d)) ∧ HasLen w' ∧ Below w.heap.size w w' ∧ w.heap.size < w'.heap.size ∧ w4.heap.size < w'.heap.size ∧ w6.heap.size < w'.heap.size ∧ w.heap.size ≤ w'.heap.size) (by kernel_rfl) ?_ (fun hHeld => ?_)
  · exact s3t_drew hS
  refine reg_on (v := ?_) [] rfl (by kernel_rfl) (by kernel_rfl) (by kernel_rfl) (fun _ _ _ h => h) (by rfl) (by assumption) (fun w hSw => ?_) ?_
  rotate_left
  · (try dsimp only at hSw); go_simp; (try with_reducible rfl)
  try simp only [Act.put, List.setIfInBounds_toArray, List.set_cons_zero, List.set_cons_succ]
  refine reg_on (v := ?_) [_] rfl (by kernel_rfl) (by kernel_rfl) (by kernel_rfl) (fun _ _ _ h => h) (by rfl) (by assumption) (fun w hSw => ?_) ?_
  rotate_left
  · (try dsimp only at hSw); go_simp; (try with_reducible rfl)
  try simp only [Act.put, List.setIfInBounds_toArray, List.set_cons_zero, List.set_cons_succ]
  refine reg_on (v := ?_) [_, _] rfl (by kernel_rfl) (by kernel_rfl) (by kernel_rfl) (fun _ _ _ h => h) (by rfl) (by assumption) (fun w hSw => ?_) ?_
  rotate_left
  · (try dsimp only at hSw); go_simp; (try with_reducible rfl)
  try simp only [Act.put, List.setIfInBounds_toArray, List.set_cons_zero, List.set_cons_succ]
  refine reg_on (v := ?_) [_, _, _] rfl (by kernel_rfl) (by kernel_rfl) (by kernel_rfl) (fun _ _ _ h => h) (by rfl) (by assumption) (fun w hSw => ?_) ?_
  rotate_left
  · (try dsimp only at hSw); go_simp; (try with_reducible rfl)
  try simp only [Act.put, List.setIfInBounds_toArray, List.set_cons_zero, List.set_cons_succ]
  refine reg_on (v := ?_) [_, _, _, _] rfl (by kernel_rfl) (by kernel_rfl) (by kernel_rfl) (fun _ _ _ h => h) (by rfl) (by assumption) (fun w hSw => ?_) ?_
  rotate_left
  · (try dsimp only at hSw); go_simp; (try with_reducible rfl)
  try simp only [Act.put, List.setIfInBounds_toArray, List.set_cons_zero, List.set_cons_succ]
  refine reg_on (v := ?_) [_, _, _, _, _] rfl (by kernel_rfl) (by kernel_rfl) (by kernel_rfl) (fun _ _ _ h => h) (by rfl) (by assumption) (fun w hSw => ?_) ?_
  rotate_left
  · (try dsimp only at hSw); go_simp; (try with_reducible rfl)
  try simp only [Act.put, List.setIfInBounds_toArray, List.set_cons_zero, List.set_cons_succ]
  refine reg_on (v := ?_) [_, _, _, _, _, _] rfl (by kernel_rfl) (by kernel_rfl) (by kernel_rfl) (fun _ _ _ h => h) (by rfl) (by assumption) (fun w hSw => ?_) ?_
  rotate_left
  · (try dsimp only at hSw); go_simp; (try with_reducible rfl)
  try simp only [Act.put, List.setIfInBounds_toArray, List.set_cons_zero, List.set_cons_succ]
  refine reg_on (v := ?_) [_, _, _, _, _, _, _] rfl (by kernel_rfl) (by kernel_rfl) (by kernel_rfl) (fun _ _ _ h => h) (by rfl) (by assumption) (fun w hSw => ?_) ?_
  rotate_left
  · (try dsimp only at hSw); go_simp; (try with_reducible rfl)
  try simp only [Act.put, List.setIfInBounds_toArray, List.set_cons_zero, List.set_cons_succ]
  refine reg_on (v := ?_) [_, _, _, _, _, _, _, _] rfl (by kernel_rfl) (by kernel_rfl) (by kernel_rfl) (fun _ _ _ h => h) (by rfl) (by assumption) (fun w hSw => ?_) ?_
  rotate_left
  · (try dsimp only at hSw); go_simp; (try with_reducible rfl)
  try simp only [Act.put, List.setIfInBounds_toArray, List.set_cons_zero, List.set_cons_succ]
  refine reg_on (v := ?_) [_, _, _, _, _, _, _, _, _] rfl (by kernel_rfl) (by kernel_rfl) (by kernel_rfl) (fun _ _ _ h => h) (by rfl) (by assumption) (fun w hSw => ?_) ?_
  rotate_left
  · (try dsimp only at hSw); go_simp; (try with_reducible rfl)
  try simp only [Act.put, List.setIfInBounds_toArray, List.set_cons_zero, List.set_cons_succ]
  refine reg_on (v := ?_) [_, _, _, _, _, _, _, _, _, _, _] rfl (by kernel_rfl) (by kernel_rfl) (by kernel_rfl) (fun _ _ _ h => h) (by rfl) (by assumption) (fun w hSw => ?_) ?_
  rotate_left
  · (try dsimp only at hSw); go_simp; (try with_reducible rfl)
  try simp only [Act.put, List.setIfInBounds_toArray, List.set_cons_zero, List.set_cons_succ]
  refine reg_one [_, _, _, _, _, _, _, _, _, _] rfl (by kernel_rfl) (by rfl) (fun K hK => ?_)
  go_simp
  refine (K3.out _ (s3t_len (by assumption))).mono ?_
  rintro e w8 ⟨rfl, hb8⟩
  go_wp2_with fail
  refine hK.out _ _ ?_ (fun hHeld => ?_)
  · exact s3t_bw (by assumption) (by assumption)
  clear hK K
  try simp only [Act.put, List.setIfInBounds_toArray, List.set_cons_zero, List.set_cons_succ]
  refine reg_one [_, _, _, _, _, _, _, _, _, _, _, _] rfl (by kernel_rfl) (by rfl) (fun K hK => ?_)
  go_simp
  refine (K4.out _).mono ?_
  rintro e w8 ⟨rfl, hb8⟩
  go_wp2_with fail
  refine hK.out _ _ ?_ (fun hHeld => ?_)
  · exact s3t_bw (by assumption) (by assumption)
  clear hK K
  try simp only [Act.put, List.setIfInBounds_toArray, List.set_cons_zero, List.set_cons_succ]
  refine reg_on (v := ?_) [_, _, _, _, _, _, _, _, _, _, _, _, _] rfl (by kernel_rfl) (by kernel_rfl) (by kernel_rfl) (fun _ _ _ h => h) (by rfl) (by assumption) (fun w hSw => ?_) ?_
  rotate_left
  · (try dsimp only at hSw); go_simp; (try with_reducible rfl)
  try simp only [Act.put, List.setIfInBounds_toArray, List.set_cons_zero, List.set_cons_succ]
  refine reg_on (v := ?_) [_, _, _, _, _, _, _, _, _, _, _, _, _, _] rfl (by kernel_rfl) (by kernel_rfl) (by kernel_rfl) (fun _ _ _ h => h) (by rfl) (by assumption) (fun w hSw => ?_) ?_
  rotate_left
  · (try dsimp only at hSw); go_simp; (try with_reducible rfl)
  try simp only [Act.put, List.setIfInBounds_toArray, List.set_cons_zero, List.set_cons_succ]
  refine reg_on (v := ?_) [_, _, _, _, _, _, _, _, _, _, _, _, _, _, _] rfl (by kernel_rfl) (by kernel_rfl) (by kernel_rfl) (fun _ _ _ h => h) (by rfl) (by assumption) (fun w hSw => ?_) ?_
  rotate_left
  · (try dsimp only at hSw); go_simp; (try with_reducible rfl)
  try simp only [Act.put, List.setIfInBounds_toArray, List.set_cons_zero, List.set_cons_succ]
  refine reg_on (v := ?_) [_, _, _, _, _, _, _, _, _, _, _, _, _, _, _, _] rfl (by kernel_rfl) (by kernel_rfl) (by kernel_rfl) (fun _ _ _ h => h) (by rfl) (by assumption) (fun w hSw => ?_) ?_
  rotate_left
  · (try dsimp only at hSw); go_simp; (try with_reducible rfl)
  try simp only [Act.put, List.setIfInBounds_toArray, List.set_cons_zero, List.set_cons_succ]
  refine reg_on (v := ?_) [_, _, _, _, _, _, _, _, _, _, _, _, _, _, _, _, _] rfl (by kernel_rfl) (by kernel_rfl) (by kernel_rfl) (fun _ _ _ h => h) (by rfl) (by assumption) (fun w hSw => ?_) ?_
  rotate_left
  · (try dsimp only at hSw); go_simp; (try with_reducible rfl)
  try simp only [Act.put, List.setIfInBounds_toArray, List.set_cons_zero, List.set_cons_succ]
  refine reg_on (v := ?_) [_, _, _, _, _, _, _, _, _, _, _, _, _, _, _, _, _, _] rfl (by kernel_rfl) (by kernel_rfl) (by kernel_rfl) (fun _ _ _ h => h) (by rfl) (by assumption) (fun w hSw => ?_) ?_
  rotate_left
  · (try dsimp only at hSw); go_simp; (try with_reducible rfl)
  try simp only [Act.put, List.setIfInBounds_toArray, List.set_cons_zero, List.set_cons_succ]
  refine reg_off [_, _, _, _, _, _, _, _, _, _, _, _, _, _, _, _, _, _, _] rfl (by kernel_rfl) (by kernel_rfl) (by kernel_rfl) (fun _ _ _ h => h) (by rfl) (by assumption) ?_
  try simp only [Act.put, List.setIfInBounds_toArray, List.set_cons_zero, List.set_cons_succ]
  refine reg_off [_, _, _, _, _, _, _, _, _, _, _, _, _, _, _, _, _, _, _, _] rfl (by kernel_rfl) (by kernel_rfl) (by kernel_rfl) (fun _ _ _ h => h) (by rfl) (by assumption) ?_
  try simp only [Act.put, List.setIfInBounds_toArray, List.set_cons_zero, List.set_cons_succ]
  refine reg_off [_, _, _, _, _, _, _, _, _, _, _, _, _, _, _, _, _, _, _, _, _] rfl (by kernel_rfl) (by kernel_rfl) (by kernel_rfl) (fun _ _ _ h => h) (by rfl) (by assumption) ?_
  try simp only [Act.put, List.setIfInBounds_toArray, List.set_cons_zero, List.set_cons_succ]
  refine reg_off [_, _, _, _, _, _, _, _, _, _, _, _, _, _, _, _, _, _, _, _, _, _] rfl (by kernel_rfl) (by kernel_rfl) (by kernel_rfl) (fun _ _ _ h => h) (by rfl) (by assumption) ?_
  try simp only [Act.put, List.setIfInBounds_toArray, List.set_cons_zero, List.set_cons_succ]
  refine reg_on (v := ?_) [_, _, _, _, _, _, _, _, _, _, _, _, _, _, _, _, _, _, _, _, _, _, _] rfl (by kernel_rfl) (by kernel_rfl) (by kernel_rfl) (fun _ _ _ h => h) (by rfl) (by assumption) (fun w hSw => ?_) ?_
  rotate_left
  · (try dsimp only at hSw); go_simp; (try with_reducible rfl)
  try simp only [Act.put, List.setIfInBounds_toArray, List.set_cons_zero, List.set_cons_succ]
  refine reg_on (v := ?_) [_, _, _, _, _, _, _, _, _, _, _, _, _, _, _, _, _, _, _, _, _, _, _, _] rfl (by kernel_rfl) (by kernel_rfl) (by kernel_rfl) (fun _ _ _ h => h) (by rfl) (by assumption) (fun w hSw => ?_) ?_
  rotate_left
  · (try dsimp only at hSw); go_simp; (try with_reducible rfl)
  try simp only [Act.put, List.setIfInBounds_toArray, List.set_cons_zero, List.set_cons_succ]
  refine wpAnyH_done (by kernel_rfl) ?_ _
  have hS' := hHeld
  clear hHeld hS
  rotate_left
  have h0' : (er == 0) = true := by simpa using h0
  have HPQ := Lib.hid (show pprint q = s by rw [← HQ.out]; exact (Per.pp_print (HE.out.trans h0)).2)
  have k5 := fun W (hl : HasLen W) => PPrint_any q W hl
  rw [HPQ.out] at k5
  have K5 := Lib.hid k5
  clear k5 h0
  focus
    go_region_held3 (fun w' => (w'.cell? ⟨w.heap.size, 0, none⟩ = some (.int .i64 p.f) ∧ w'.cell? ⟨w.heap.size, 1, none⟩ = some (.int .i64 p.t) ∧ w'.cell? ⟨w.heap.size, 2, none⟩ = some (.int .i64 p.d)) ∧ (w'.cell? ⟨w4.heap.size, 0, none⟩ = some (.int .i64 q.f) ∧ w'.cell? ⟨w4.heap.size, 1, none⟩ = some (.int .i64 q.t) ∧ w'.cell? ⟨w4.heap.size, 2, none⟩ = some (.int .i64 q.d)) ∧ (w'.cell? ⟨w6.heap.size, 0, none⟩ = some (.int .i64 q.f) ∧ w'.cell? ⟨w6.heap.size, 1, none⟩ = some (.int .i64 q.t) ∧ w'.cell? ⟨w6.heap.size, 2, none⟩ = some (.int .i64 q.d)) ∧ HasLen w' ∧ Below w.heap.size w w' ∧ w.heap.size < w'.heap.size ∧ w4.heap.size < w'.heap.size ∧ w6.heap.size < w'.heap.size ∧ w.heap.size ≤ w'.heap.size) (first | exact s3t_drew hS | exact s3t_bw (by assumption) (by assumption)) (first
      | (go_at_call 51; (first | (with_reducible refine (K3.out _ (s3t_len (by assumption))).mono ?_) | (with_reducible refine (K5.out _ (s3t_len (by assumption))).mono ?_)); rintro e w8 ⟨rfl, hb8⟩)
      | (go_at_call 52; refine (K4.out _).mono ?_; rintro e w8 ⟨rfl, hb8⟩))
    rename_i hS'
    clear hS
  all_goals
    obtain ⟨⟨a0, a1, a2⟩, -, -, hl8, hB8, hs0, -, -, hz8⟩ := hS'
    have HPS := Lib.hid (pprint_size p)
    go_wp2_with fail
    refine (K3.out _ hl8).mono ?_
    rintro e w10 ⟨rfl, hb10⟩
    have hA10 := PerAt.below ⟨a0, a1, a2⟩ hb10 hs0
    have hB10 := hB8.trans (hb10.mono hz8)
    have hs10 := Nat.lt_of_lt_of_le hs0 hb10.size
    have hz10 := hB10.size
    clear a0 a1 a2 hb10
    go_wp2_with fail
    refine (pParse_any (pprint p) m _ (HLN.out _ hB10) (HMX.out _ hB10) HPS.out).mono ?_
    rintro e w11 ⟨rfl, hb11⟩
    unfold parsedV
    have hA11 := PerAt.below hA10 hb11 hs10
    have hB11 := hB10.trans (hb11.mono hz10)
    have hs11 := Nat.lt_of_lt_of_le hs10 hb11.size
    clear hA10 hb11
    have HCK := Lib.hid (fun W => rCheck_any p W)
    by_cases hk : Per.chk p = 0
    · have hpp := Per.print_pp hk
      rw [hpp]
      dsimp only
      have hk' : (Per.chk p != 0) = false := by simpa using hk
      have hq11 : Below w11.heap.size w11 (w11.alloc (.cells #[.int .i64 p.f, .int .i64 p.t, .int .i64 p.d] 37)) := (Below.refl _ _).alloc (Nat.le_refl _) _
      have hz12 : (w11.alloc (.cells #[.int .i64 p.f, .int .i64 p.t, .int .i64 p.d] 37)).heap.size = w11.heap.size + 1 := by simp
      obtain ⟨a0, a1, a2⟩ := PerAt.below hA11 hq11 hs11
      have hY := perAt_new w11 p 37
      have hB12 := hB11.trans (hq11.mono (by omega))
      clear hpp hk hA11 hq11
      go_wp2_with fail
      generalize w11.alloc (.cells #[.int .i64 p.f, .int .i64 p.t, .int .i64 p.d] 37) = w12 at *
      refine (HCK.out _).mono ?_
      rintro e w13 ⟨rfl, hb13⟩
      have hA13 := PerAt.below ⟨a0, a1, a2⟩ hb13 (by omega)
      have hY13 := PerAt.below hY hb13 (by omega)
      have hB13 := hB12.trans (hb13.mono (by omega))
      have hl13 := HLN.out _ hB13
      clear a0 a1 a2 hY hb13 hB12
      obtain ⟨a0, a1, a2⟩ := hA13
      obtain ⟨y0, y1, y2⟩ := hY13
      go_wp2_with fail
      refine (pawake_any _ hl13).mono ?_
      rintro e w14 ⟨rfl, hb14⟩
      go_wp2_with fail
      go_ret
      exact ⟨rfl, hB13.trans (hb14.mono hB13.size)⟩
    · have hpn := Per.pprint_no hk
      have hpp : Per.pp (pprint p) = (Per.zero, 3) := by rw [hpn]; exact Per.pp_empty
      rw [hpp]
      dsimp only
      have k6 := fun W (hl : HasLen W) => PPrint_any p W hl
      rw [hpn] at k6
      have K6 : Hid (∀ W, HasLen W → Calls Tryd.prog 51 #[pv p] W fun e w' => e = .returned (.string ⟨#[]⟩) ∧ Below W.heap.size W w') := Lib.hid k6
      have hk' : (Per.chk p != 0) = true := by simpa using hk
      have hq11 : Below w11.heap.size w11 (w11.alloc (.cells #[.int .i64 0, .int .i64 0, .int .i64 0] 37)) := (Below.refl _ _).alloc (Nat.le_refl _) _
      have hz12 : (w11.alloc (.cells #[.int .i64 0, .int .i64 0, .int .i64 0] 37)).heap.size = w11.heap.size + 1 := by simp
      obtain ⟨a0, a1, a2⟩ := PerAt.below hA11 hq11 hs11
      have hB12 := hB11.trans (hq11.mono (by omega))
      unfold Per.zero
      try dsimp only
      clear hpp hk hpn k6 hA11 hq11
      go_wp2_with fail
      generalize w11.alloc (.cells #[.int .i64 0, .int .i64 0, .int .i64 0] 37) = w12 at *
      refine (HCK.out _).mono ?_
      rintro e w13 ⟨rfl, hb13⟩
      have hA13 := PerAt.below ⟨a0, a1, a2⟩ hb13 (by omega)
      have hB13 := hB12.trans (hb13.mono (by omega))
      have hl13 := HLN.out _ hB13
      clear a0 a1 a2 hb13 hB12
      obtain ⟨a0, a1, a2⟩ := hA13
      go_wp2_with fail
      refine (K6.out _ hl13).mono ?_
      rintro e w14 ⟨rfl, hb14⟩
      have hB14 := hB13.trans (hb14.mono hB13.size)
      have hl14 := HLN.out _ hB14
      clear a0 a1 a2 hb14
      go_wp2_with fail
      refine (pawake_any _ hl14).mono ?_
      rintro e w15 ⟨rfl, hb15⟩
      go_wp2_with fail
      go_ret
      exact ⟨rfl, hB14.trans (hb15.mono hB14.size)⟩
end Go.Proofs.YtfmdnmkojeolkaaDoor
