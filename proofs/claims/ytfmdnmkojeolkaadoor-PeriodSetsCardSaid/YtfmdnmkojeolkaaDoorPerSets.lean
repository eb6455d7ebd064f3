/-
  The law PeriodSets, walked: Normal, Meet and Without return the canonical periods of the reference.
-/
import Derived.Test.YtfmdnmkojeolkaaDoorRefWithout
namespace Go.Proofs.YtfmdnmkojeolkaaDoor
open Go.RowKit Go.Shelf

/-- A slice that reads as a list of periods. -/
def PersAt (W : World) (v : Value) (l : List Per.P) : Prop :=
  ∃ oa cap, v = .slice oa l.length cap ∧ (0 < l.length → ∃ g, oa = some ⟨g, 0, none⟩ ∧ g < W.heap.size ∧ ∀ j u, (cellsOf l)[j]? = some u → W.cell? ⟨g, j, none⟩ = some u)
theorem PersAt.below {W W' : World} {v : Value} {l : List Per.P} (h : PersAt W v l) (hb : Below W.heap.size W W') : PersAt W' v l := by
  obtain ⟨oa, cap, rfl, h⟩ := h
  refine ⟨oa, cap, rfl, fun hp => ?_⟩
  obtain ⟨g, rfl, hg, hc⟩ := h hp
  exact ⟨g, rfl, Nat.lt_of_lt_of_le hg hb.size, fun j u hj => (hb.cell (p := ⟨g, j, none⟩) hg).trans (hc j u hj)⟩
theorem persAt_of_row {W : World} {n₀ : Nat} {v : Value} {l : List Per.P} (h : W.ownsRow n₀ 37 3 v l.length (cellsOf l)) : PersAt W v l := by
  obtain ⟨oa, cap, rfl, hc⟩ := row_any h
  refine ⟨oa, cap, rfl, fun hp => ?_⟩
  obtain ⟨g, rfl, -, hg, hc⟩ := hc hp
  exact ⟨g, rfl, hg, hc⟩

set_option maxHeartbeats 1000000 in
theorem psame_self (l : List Per.P) (a b : Value) (w : World) (ha : PersAt w a l) (hb : PersAt w b l) (hl : l.length ≤ 3) :
    Calls Tryd.prog 36 #[a, b] w fun e w' => e = .returned (.bool true) ∧ Below w.heap.size w w' := by
  obtain ⟨oa, ca, rfl, ha⟩ := ha
  obtain ⟨ob, cb, rfl, hb⟩ := hb
  go_enter Tryd.func36, Tryd.ntmps36
  go_wp2_with fail
  go_loopw [5] (fun i wr => ∃ k : Nat, k ≤ l.length ∧ i = .int .i64 k ∧ Below w.heap.size w wr) (fun i _ => (l.length - intOf i).toNat)
  case atStart => exact ⟨0, by omega, rfl, Below.refl _ _⟩
  case round =>
    obtain ⟨k, hk, rfl, hbr⟩ := hrel
    by_cases hlt : k < l.length
    · obtain ⟨g, rfl, hg, hc⟩ := ha (by omega)
      obtain ⟨g', rfl, hg', hc'⟩ := hb (by omega)
      obtain ⟨q, hq⟩ : ∃ q, l[k]? = some q := ⟨_, List.getElem?_eq_getElem hlt⟩
      obtain ⟨q0, q1, q2⟩ := cellsOf_get hq
      have r0 := (hbr.cell (p := ⟨g, 3 * k, none⟩) hg).trans (hc _ _ q0)
      have r1 := (hbr.cell (p := ⟨g, 3 * k + 1, none⟩) hg).trans (hc _ _ q1)
      have r2 := (hbr.cell (p := ⟨g, 3 * k + 2, none⟩) hg).trans (hc _ _ q2)
      have s0 := (hbr.cell (p := ⟨g', 3 * k, none⟩) hg').trans (hc' _ _ q0)
      have s1 := (hbr.cell (p := ⟨g', 3 * k + 1, none⟩) hg').trans (hc' _ _ q1)
      have s2 := (hbr.cell (p := ⟨g', 3 * k + 2, none⟩) hg').trans (hc' _ _ q2)
      have hk3 : k = 0 ∨ k = 1 ∨ k = 2 := by omega
      clear q0 q1 q2 hc hc' hq ha hb
      rcases hk3 with rfl | rfl | rfl
      all_goals
        simp only [Nat.mul_zero, Nat.mul_one, Nat.zero_add, Nat.reduceMul, Nat.reduceAdd] at r0 r1 r2 s0 s1 s2
        go_wp2_with fail
        go_region
        all_goals
          go_wp2_with fail
          go_roundw
          case rel => exact ⟨_, hlt, by go_num, hbr.drew⟩
          case measure => simp [intOf]; omega
    · go_wp2_with fail
      go_ret
      exact ⟨rfl, hbr⟩
theorem s6_drew {w w1 : World} {B0 B1 B2 B3 B4 B5 : Nat} {p0 p1 p2 p3 p4 p5 : Per.P} (h : (w1.cell? ⟨B0, 0, none⟩ = some (.int .i64 p0.f) ∧ w1.cell? ⟨B0, 1, none⟩ = some (.int .i64 p0.t) ∧ w1.cell? ⟨B0, 2, none⟩ = some (.int .i64 p0.d)) ∧ (w1.cell? ⟨B1, 0, none⟩ = some (.int .i64 p1.f) ∧ w1.cell? ⟨B1, 1, none⟩ = some (.int .i64 p1.t) ∧ w1.cell? ⟨B1, 2, none⟩ = some (.int .i64 p1.d)) ∧ (w1.cell? ⟨B2, 0, none⟩ = some (.int .i64 p2.f) ∧ w1.cell? ⟨B2, 1, none⟩ = some (.int .i64 p2.t) ∧ w1.cell? ⟨B2, 2, none⟩ = some (.int .i64 p2.d)) ∧ (w1.cell? ⟨B3, 0, none⟩ = some (.int .i64 p3.f) ∧ w1.cell? ⟨B3, 1, none⟩ = some (.int .i64 p3.t) ∧ w1.cell? ⟨B3, 2, none⟩ = some (.int .i64 p3.d)) ∧ (w1.cell? ⟨B4, 0, none⟩ = some (.int .i64 p4.f) ∧ w1.cell? ⟨B4, 1, none⟩ = some (.int .i64 p4.t) ∧ w1.cell? ⟨B4, 2, none⟩ = some (.int .i64 p4.d)) ∧ (w1.cell? ⟨B5, 0, none⟩ = some (.int .i64 p5.f) ∧ w1.cell? ⟨B5, 1, none⟩ = some (.int .i64 p5.t) ∧ w1.cell? ⟨B5, 2, none⟩ = some (.int .i64 p5.d)) ∧ HasLen w1 ∧ Below w.heap.size w w1 ∧ B0 < w1.heap.size ∧ B1 < w1.heap.size ∧ B2 < w1.heap.size ∧ B3 < w1.heap.size ∧ B4 < w1.heap.size ∧ B5 < w1.heap.size ∧ w.heap.size ≤ w1.heap.size) : (w1.drew.cell? ⟨B0, 0, none⟩ = some (.int .i64 p0.f) ∧ w1.drew.cell? ⟨B0, 1, none⟩ = some (.int .i64 p0.t) ∧ w1.drew.cell? ⟨B0, 2, none⟩ = some (.int .i64 p0.d)) ∧ (w1.drew.cell? ⟨B1, 0, none⟩ = some (.int .i64 p1.f) ∧ w1.drew.cell? ⟨B1, 1, none⟩ = some (.int .i64 p1.t) ∧ w1.drew.cell? ⟨B1, 2, none⟩ = some (.int .i64 p1.d)) ∧ (w1.drew.cell? ⟨B2, 0, none⟩ = some (.int .i64 p2.f) ∧ w1.drew.cell? ⟨B2, 1, none⟩ = some (.int .i64 p2.t) ∧ w1.drew.cell? ⟨B2, 2, none⟩ = some (.int .i64 p2.d)) ∧ (w1.drew.cell? ⟨B3, 0, none⟩ = some (.int .i64 p3.f) ∧ w1.drew.cell? ⟨B3, 1, none⟩ = some (.int .i64 p3.t) ∧ w1.drew.cell? ⟨B3, 2, none⟩ = some (.int .i64 p3.d)) ∧ (w1.drew.cell? ⟨B4, 0, none⟩ = some (.int .i64 p4.f) ∧ w1.drew.cell? ⟨B4, 1, none⟩ = some (.int .i64 p4.t) ∧ w1.drew.cell? ⟨B4, 2, none⟩ = some (.int .i64 p4.d)) ∧ (w1.drew.cell? ⟨B5, 0, none⟩ = some (.int .i64 p5.f) ∧ w1.drew.cell? ⟨B5, 1, none⟩ = some (.int .i64 p5.t) ∧ w1.drew.cell? ⟨B5, 2, none⟩ = some (.int .i64 p5.d)) ∧ HasLen w1.drew ∧ Below w.heap.size w w1.drew ∧ B0 < w1.drew.heap.size ∧ B1 < w1.drew.heap.size ∧ B2 < w1.drew.heap.size ∧ B3 < w1.drew.heap.size ∧ B4 < w1.drew.heap.size ∧ B5 < w1.drew.heap.size ∧ w.heap.size ≤ w1.drew.heap.size := by
  obtain ⟨h0, h1, h2, h3, h4, h5, hl, hB, hs⟩ := h
  exact ⟨h0, h1, h2, h3, h4, h5, hl, hB.drew, hs⟩
theorem s6_bw {w w1 w2 : World} {B0 B1 B2 B3 B4 B5 : Nat} {p0 p1 p2 p3 p4 p5 : Per.P} (h : (w1.cell? ⟨B0, 0, none⟩ = some (.int .i64 p0.f) ∧ w1.cell? ⟨B0, 1, none⟩ = some (.int .i64 p0.t) ∧ w1.cell? ⟨B0, 2, none⟩ = some (.int .i64 p0.d)) ∧ (w1.cell? ⟨B1, 0, none⟩ = some (.int .i64 p1.f) ∧ w1.cell? ⟨B1, 1, none⟩ = some (.int .i64 p1.t) ∧ w1.cell? ⟨B1, 2, none⟩ = some (.int .i64 p1.d)) ∧ (w1.cell? ⟨B2, 0, none⟩ = some (.int .i64 p2.f) ∧ w1.cell? ⟨B2, 1, none⟩ = some (.int .i64 p2.t) ∧ w1.cell? ⟨B2, 2, none⟩ = some (.int .i64 p2.d)) ∧ (w1.cell? ⟨B3, 0, none⟩ = some (.int .i64 p3.f) ∧ w1.cell? ⟨B3, 1, none⟩ = some (.int .i64 p3.t) ∧ w1.cell? ⟨B3, 2, none⟩ = some (.int .i64 p3.d)) ∧ (w1.cell? ⟨B4, 0, none⟩ = some (.int .i64 p4.f) ∧ w1.cell? ⟨B4, 1, none⟩ = some (.int .i64 p4.t) ∧ w1.cell? ⟨B4, 2, none⟩ = some (.int .i64 p4.d)) ∧ (w1.cell? ⟨B5, 0, none⟩ = some (.int .i64 p5.f) ∧ w1.cell? ⟨B5, 1, none⟩ = some (.int .i64 p5.t) ∧ w1.cell? ⟨B5, 2, none⟩ = some (.int .i64 p5.d)) ∧ HasLen w1 ∧ Below w.heap.size w w1 ∧ B0 < w1.heap.size ∧ B1 < w1.heap.size ∧ B2 < w1.heap.size ∧ B3 < w1.heap.size ∧ B4 < w1.heap.size ∧ B5 < w1.heap.size ∧ w.heap.size ≤ w1.heap.size) (hb : Below w1.heap.size w1 w2) : (w2.cell? ⟨B0, 0, none⟩ = some (.int .i64 p0.f) ∧ w2.cell? ⟨B0, 1, none⟩ = some (.int .i64 p0.t) ∧ w2.cell? ⟨B0, 2, none⟩ = some (.int .i64 p0.d)) ∧ (w2.cell? ⟨B1, 0, none⟩ = some (.int .i64 p1.f) ∧ w2.cell? ⟨B1, 1, none⟩ = some (.int .i64 p1.t) ∧ w2.cell? ⟨B1, 2, none⟩ = some (.int .i64 p1.d)) ∧ (w2.cell? ⟨B2, 0, none⟩ = some (.int .i64 p2.f) ∧ w2.cell? ⟨B2, 1, none⟩ = some (.int .i64 p2.t) ∧ w2.cell? ⟨B2, 2, none⟩ = some (.int .i64 p2.d)) ∧ (w2.cell? ⟨B3, 0, none⟩ = some (.int .i64 p3.f) ∧ w2.cell? ⟨B3, 1, none⟩ = some (.int .i64 p3.t) ∧ w2.cell? ⟨B3, 2, none⟩ = some (.int .i64 p3.d)) ∧ (w2.cell? ⟨B4, 0, none⟩ = some (.int .i64 p4.f) ∧ w2.cell? ⟨B4, 1, none⟩ = some (.int .i64 p4.t) ∧ w2.cell? ⟨B4, 2, none⟩ = some (.int .i64 p4.d)) ∧ (w2.cell? ⟨B5, 0, none⟩ = some (.int .i64 p5.f) ∧ w2.cell? ⟨B5, 1, none⟩ = some (.int .i64 p5.t) ∧ w2.cell? ⟨B5, 2, none⟩ = some (.int .i64 p5.d)) ∧ HasLen w2 ∧ Below w.heap.size w w2 ∧ B0 < w2.heap.size ∧ B1 < w2.heap.size ∧ B2 < w2.heap.size ∧ B3 < w2.heap.size ∧ B4 < w2.heap.size ∧ B5 < w2.heap.size ∧ w.heap.size ≤ w2.heap.size := by
  obtain ⟨⟨a0, b0, c0⟩, ⟨a1, b1, c1⟩, ⟨a2, b2, c2⟩, ⟨a3, b3, c3⟩, ⟨a4, b4, c4⟩, ⟨a5, b5, c5⟩, hl, hB, s0, s1, s2, s3, s4, s5, hz⟩ := h
  exact ⟨⟨(hb.cell (p := ⟨B0, 0, none⟩) s0).trans a0, (hb.cell (p := ⟨B0, 1, none⟩) s0).trans b0, (hb.cell (p := ⟨B0, 2, none⟩) s0).trans c0⟩, ⟨(hb.cell (p := ⟨B1, 0, none⟩) s1).trans a1, (hb.cell (p := ⟨B1, 1, none⟩) s1).trans b1, (hb.cell (p := ⟨B1, 2, none⟩) s1).trans c1⟩, ⟨(hb.cell (p := ⟨B2, 0, none⟩) s2).trans a2, (hb.cell (p := ⟨B2, 1, none⟩) s2).trans b2, (hb.cell (p := ⟨B2, 2, none⟩) s2).trans c2⟩, ⟨(hb.cell (p := ⟨B3, 0, none⟩) s3).trans a3, (hb.cell (p := ⟨B3, 1, none⟩) s3).trans b3, (hb.cell (p := ⟨B3, 2, none⟩) s3).trans c3⟩, ⟨(hb.cell (p := ⟨B4, 0, none⟩) s4).trans a4, (hb.cell (p := ⟨B4, 1, none⟩) s4).trans b4, (hb.cell (p := ⟨B4, 2, none⟩) s4).trans c4⟩, ⟨(hb.cell (p := ⟨B5, 0, none⟩) s5).trans a5, (hb.cell (p := ⟨B5, 1, none⟩) s5).trans b5, (hb.cell (p := ⟨B5, 2, none⟩) s5).trans c5⟩, hl.below hb, hB.trans (hb.mono hz), Nat.lt_of_lt_of_le s0 hb.size, Nat.lt_of_lt_of_le s1 hb.size, Nat.lt_of_lt_of_le s2 hb.size, Nat.lt_of_lt_of_le s3 hb.size, Nat.lt_of_lt_of_le s4 hb.size, Nat.lt_of_lt_of_le s5 hb.size, Nat.le_trans hz hb.size⟩

theorem s6_len {W : World} {A B C D E F G : Prop} (h : A ∧ B ∧ C ∧ D ∧ E ∧ F ∧ HasLen W ∧ G) : HasLen W := h.2.2.2.2.2.2.1

set_option maxHeartbeats 2000000 in
theorem sets_any (a b : Per.P) (w : World) (hl : HasLen w) :
    Calls Tryd.prog 9 #[pv a, pv b] w fun e w' => e = .returned (.bool true) ∧ Below w.heap.size w w' := by
  have hT := two_new w a b
  have hB0 := ((Below.refl w.heap.size w).alloc (Nat.le_refl _) (.cells #[.int .i64 a.f, .int .i64 a.t, .int .i64 a.d] 37)).alloc (by simp) (.cells #[.int .i64 b.f, .int .i64 b.t, .int .i64 b.d] 37)
  have hz : ((w.alloc (.cells #[.int .i64 a.f, .int .i64 a.t, .int .i64 a.d] 37)).alloc (.cells #[.int .i64 b.f, .int .i64 b.t, .int .i64 b.d] 37)).heap.size = w.heap.size + 1 + 1 := by simp
  have a0 := hT.1.c0; have a1 := hT.1.c1; have a2 := hT.1.c2
  have b0 := hT.2.c0; have b1 := hT.2.c1; have b2 := hT.2.c2
  obtain ⟨x, hx⟩ : ∃ x, Per.canon (Per.days a) = x := ⟨_, rfl⟩
  obtain ⟨v, hv⟩ : ∃ v, Per.canon (meetDays a b) = v := ⟨_, rfl⟩
  obtain ⟨ok, hok⟩ : ∃ ok, Per.ne (Per.days a) = ok := ⟨_, rfl⟩
  obtain ⟨hs, hhs⟩ : ∃ hs, Per.ne (meetDays a b) = hs := ⟨_, rfl⟩
  have k1 := fun W => Normal_any a W
  have k2 := fun W => rNormal_any a W
  have k3 := fun W => Meet_any a b W
  have k4 := fun W => rMeet_any a b W
  unfold canonV at k1 k2 k3 k4
  rw [hx, hok] at k1 k2
  rw [hv, hhs] at k3 k4
  have hol := outs_len a b
  have k5 := fun W => Without_any a b W
  have k6 := fun W => rWithout_any a b W
  generalize outs a b = os at *
  have k7 := fun u1 u2 W (h1 : PersAt W u1 os) (h2 : PersAt W u2 os) => psame_self os u1 u2 W h1 h2 hol
  have K1 := Lib.hid k1
  have K2 := Lib.hid k2
  have K3 := Lib.hid k3
  have K4 := Lib.hid k4
  have K5 := Lib.hid k5
  have K6 := Lib.hid k6
  have K7 := Lib.hid k7
  clear k1 k2 k3 k4 k5 k6 k7 hx hv hok hhs
  go_enter Tryd.func9, Tryd.ntmps9
  go_wp2_with fail
  generalize (w.alloc (.cells #[.int .i64 a.f, .int .i64 a.t, .int .i64 a.d] 37)).alloc (.cells #[.int .i64 b.f, .int .i64 b.t, .int .i64 b.d] 37) = w3 at *
  have hA : PerAt w3 w.heap.size a := ⟨a0, a1, a2⟩
  have hBq : PerAt w3 (w.heap.size + 1) b := ⟨b0, b1, b2⟩
  have hBe := hB0
  refine (K1.out _).mono ?_
  rintro e w10 ⟨rfl, hb10⟩
  have hq10 : Below w3.heap.size w3 (w10.alloc (.cells #[.int .i64 x.f, .int .i64 x.t, .int .i64 x.d] 37)) := hb10.alloc hb10.size _
  have hr10 : (w10.alloc (.cells #[.int .i64 x.f, .int .i64 x.t, .int .i64 x.d] 37)).heap.size = w10.heap.size + 1 := by simp
  have hv10 := hb10.size
  have hA := PerAt.below hA hq10 (by omega)
  have hBq := PerAt.below hBq hq10 (by omega)
  have hN10 : PerAt (w10.alloc (.cells #[.int .i64 x.f, .int .i64 x.t, .int .i64 x.d] 37)) w10.heap.size x := perAt_new _ _ _
  have hBe := hBe.trans (hq10.mono (by omega))
  clear a0 a1 a2 b0 b1 b2
  obtain ⟨a0, a1, a2⟩ := hA
  obtain ⟨b0, b1, b2⟩ := hBq
  clear hb10 hq10
  go_wp2_with fail
  generalize w10.alloc (.cells #[.int .i64 x.f, .int .i64 x.t, .int .i64 x.d] 37) = w11 at *
  have hA : PerAt w11 w.heap.size a := ⟨a0, a1, a2⟩
  have hBq : PerAt w11 (w.heap.size + 1) b := ⟨b0, b1, b2⟩
  refine (K2.out _).mono ?_
  rintro e w12 ⟨rfl, hb12⟩
  have hq12 : Below w11.heap.size w11 (w12.alloc (.cells #[.int .i64 x.f, .int .i64 x.t, .int .i64 x.d] 37)) := hb12.alloc hb12.size _
  have hr12 : (w12.alloc (.cells #[.int .i64 x.f, .int .i64 x.t, .int .i64 x.d] 37)).heap.size = w12.heap.size + 1 := by simp
  have hv12 := hb12.size
  have hA := PerAt.below hA hq12 (by omega)
  have hBq := PerAt.below hBq hq12 (by omega)
  have hN10 := PerAt.below hN10 hq12 (by omega)
  have hN12 : PerAt (w12.alloc (.cells #[.int .i64 x.f, .int .i64 x.t, .int .i64 x.d] 37)) w12.heap.size x := perAt_new _ _ _
  have hBe := hBe.trans (hq12.mono (by omega))
  clear a0 a1 a2 b0 b1 b2
  obtain ⟨a0, a1, a2⟩ := hA
  obtain ⟨b0, b1, b2⟩ := hBq
  clear hb12 hq12
  go_wp2_with fail
  generalize w12.alloc (.cells #[.int .i64 x.f, .int .i64 x.t, .int .i64 x.d] 37) = w13 at *
  have hA : PerAt w13 w.heap.size a := ⟨a0, a1, a2⟩
  have hBq : PerAt w13 (w.heap.size + 1) b := ⟨b0, b1, b2⟩
  refine (K3.out _).mono ?_
  rintro e w14 ⟨rfl, hb14⟩
  have hq14 : Below w13.heap.size w13 (w14.alloc (.cells #[.int .i64 v.f, .int .i64 v.t, .int .i64 v.d] 37)) := hb14.alloc hb14.size _
  have hr14 : (w14.alloc (.cells #[.int .i64 v.f, .int .i64 v.t, .int .i64 v.d] 37)).heap.size = w14.heap.size + 1 := by simp
  have hv14 := hb14.size
  have hA := PerAt.below hA hq14 (by omega)
  have hBq := PerAt.below hBq hq14 (by omega)
  have hN10 := PerAt.below hN10 hq14 (by omega)
  have hN12 := PerAt.below hN12 hq14 (by omega)
  have hN14 : PerAt (w14.alloc (.cells #[.int .i64 v.f, .int .i64 v.t, .int .i64 v.d] 37)) w14.heap.size v := perAt_new _ _ _
  have hBe := hBe.trans (hq14.mono (by omega))
  clear a0 a1 a2 b0 b1 b2
  obtain ⟨a0, a1, a2⟩ := hA
  obtain ⟨b0, b1, b2⟩ := hBq
  clear hb14 hq14
  go_wp2_with fail
  generalize w14.alloc (.cells #[.int .i64 v.f, .int .i64 v.t, .int .i64 v.d] 37) = w15 at *
  have hA : PerAt w15 w.heap.size a := ⟨a0, a1, a2⟩
  have hBq : PerAt w15 (w.heap.size + 1) b := ⟨b0, b1, b2⟩
  refine (K4.out _).mono ?_
  rintro e w16 ⟨rfl, hb16⟩
  have hq16 : Below w15.heap.size w15 (w16.alloc (.cells #[.int .i64 v.f, .int .i64 v.t, .int .i64 v.d] 37)) := hb16.alloc hb16.size _
  have hr16 : (w16.alloc (.cells #[.int .i64 v.f, .int .i64 v.t, .int .i64 v.d] 37)).heap.size = w16.heap.size + 1 := by simp
  have hv16 := hb16.size
  have hA := PerAt.below hA hq16 (by omega)
  have hBq := PerAt.below hBq hq16 (by omega)
  have hN10 := PerAt.below hN10 hq16 (by omega)
  have hN12 := PerAt.below hN12 hq16 (by omega)
  have hN14 := PerAt.below hN14 hq16 (by omega)
  have hN16 : PerAt (w16.alloc (.cells #[.int .i64 v.f, .int .i64 v.t, .int .i64 v.d] 37)) w16.heap.size v := perAt_new _ _ _
  have hBe := hBe.trans (hq16.mono (by omega))
  clear a0 a1 a2 b0 b1 b2
  obtain ⟨a0, a1, a2⟩ := hA
  obtain ⟨b0, b1, b2⟩ := hBq
  clear hb16 hq16
  go_wp2_with fail
  generalize w16.alloc (.cells #[.int .i64 v.f, .int .i64 v.t, .int .i64 v.d] 37) = w17 at *
  have hA : PerAt w17 w.heap.size a := ⟨a0, a1, a2⟩
  have hBq : PerAt w17 (w.heap.size + 1) b := ⟨b0, b1, b2⟩
  have hS : (w17.cell? ⟨w.heap.size, 0, none⟩ = some (.int .i64 a.f) ∧ w17.cell? ⟨w.heap.size, 1, none⟩ = some (.int .i64 a.t) ∧ w17.cell? ⟨w.heap.size, 2, none⟩ = some (.int .i64 a.d)) ∧ (w17.cell? ⟨(w.heap.size + 1), 0, none⟩ = some (.int .i64 b.f) ∧ w17.cell? ⟨(w.heap.size + 1), 1, none⟩ = some (.int .i64 b.t) ∧ w17.cell? ⟨(w.heap.size + 1), 2, none⟩ = some (.int .i64 b.d)) ∧ (w17.cell? ⟨w10.heap.size, 0, none⟩ = some (.int .i64 x.f) ∧ w17.cell? ⟨w10.heap.size, 1, none⟩ = some (.int .i64 x.t) ∧ w17.cell? ⟨w10.heap.size, 2, none⟩ = some (.int .i64 x.d)) ∧ (w17.cell? ⟨w12.heap.size, 0, none⟩ = some (.int .i64 x.f) ∧ w17.cell? ⟨w12.heap.size, 1, none⟩ = some (.int .i64 x.t) ∧ w17.cell? ⟨w12.heap.size, 2, none⟩ = some (.int .i64 x.d)) ∧ (w17.cell? ⟨w14.heap.size, 0, none⟩ = some (.int .i64 v.f) ∧ w17.cell? ⟨w14.heap.size, 1, none⟩ = some (.int .i64 v.t) ∧ w17.cell? ⟨w14.heap.size, 2, none⟩ = some (.int .i64 v.d)) ∧ (w17.cell? ⟨w16.heap.size, 0, none⟩ = some (.int .i64 v.f) ∧ w17.cell? ⟨w16.heap.size, 1, none⟩ = some (.int .i64 v.t) ∧ w17.cell? ⟨w16.heap.size, 2, none⟩ = some (.int .i64 v.d)) ∧ HasLen w17 ∧ Below w.heap.size w w17 ∧ w.heap.size < w17.heap.size ∧ (w.heap.size + 1) < w17.heap.size ∧ w10.heap.size < w17.heap.size ∧ w12.heap.size < w17.heap.size ∧ w14.heap.size < w17.heap.size ∧ w16.heap.size < w17.heap.size ∧ w.heap.size ≤ w17.heap.size := ⟨hA, hBq, hN10, hN12, hN14, hN16, hl.below hBe, hBe, by omega, by omega, by omega, by omega, by omega, by omega, by omega⟩
  clear a0 a1 a2 b0 b1 b2 hA hBq hN10 hN12 hN14 hN16 hBe
  go_region_held3 (fun w' => (w'.cell? ⟨w.heap.size, 0, none⟩ = some (.int .i64 a.f) ∧ w'.cell? ⟨w.heap.size, 1, none⟩ = some (.int .i64 a.t) ∧ w'.cell? ⟨w.heap.size, 2, none⟩ = some (.int .i64 a.d)) ∧ (w'.cell? ⟨(w.heap.size + 1), 0, none⟩ = some (.int .i64 b.f) ∧ w'.cell? ⟨(w.heap.size + 1), 1, none⟩ = some (.int .i64 b.t) ∧ w'.cell? ⟨(w.heap.size + 1), 2, none⟩ = some (.int .i64 b.d)) ∧ (w'.cell? ⟨w10.heap.size, 0, none⟩ = some (.int .i64 x.f) ∧ w'.cell? ⟨w10.heap.size, 1, none⟩ = some (.int .i64 x.t) ∧ w'.cell? ⟨w10.heap.size, 2, none⟩ = some (.int .i64 x.d)) ∧ (w'.cell? ⟨w12.heap.size, 0, none⟩ = some (.int .i64 x.f) ∧ w'.cell? ⟨w12.heap.size, 1, none⟩ = some (.int .i64 x.t) ∧ w'.cell? ⟨w12.heap.size, 2, none⟩ = some (.int .i64 x.d)) ∧ (w'.cell? ⟨w14.heap.size, 0, none⟩ = some (.int .i64 v.f) ∧ w'.cell? ⟨w14.heap.size, 1, none⟩ = some (.int .i64 v.t) ∧ w'.cell? ⟨w14.heap.size, 2, none⟩ = some (.int .i64 v.d)) ∧ (w'.cell? ⟨w16.heap.size, 0, none⟩ = some (.int .i64 v.f) ∧ w'.cell? ⟨w16.heap.size, 1, none⟩ = some (.int .i64 v.t) ∧ w'.cell? ⟨w16.heap.size, 2, none⟩ = some (.int .i64 v.d)) ∧ HasLen w' ∧ Below w.heap.size w w' ∧ w.heap.size < w'.heap.size ∧ (w.heap.size + 1) < w'.heap.size ∧ w10.heap.size < w'.heap.size ∧ w12.heap.size < w'.heap.size ∧ w14.heap.size < w'.heap.size ∧ w16.heap.size < w'.heap.size ∧ w.heap.size ≤ w'.heap.size) (first | exact s6_drew hS | exact s6_bw (by assumption) (by assumption)) (first
    | (go_at_call 37; refine (K5.out _).mono ?_; rintro e w20 ⟨u1, rfl, hv1, hb20⟩; have hi1 := persAt_of_row hv1; clear hv1)
    | (go_at_call 38; refine (K6.out _).mono ?_; rintro e w21 ⟨u2, rfl, hv2, hb21⟩; have hi2 := persAt_of_row hv2; have hi3 := PersAt.below hi1 hb21; clear hv2 hi1)
    | (go_at_call 36; refine (K7.out _ _ _ hi3 hi2).mono ?_; rintro e w22 ⟨rfl, hb22⟩; clear hi3 hi2)
    | (go_at_call 39; refine (pawake_any _ (s6_len (by assumption))).mono ?_; rintro e w22 ⟨rfl, hb22⟩))
  rename_i hS'
  have hSb := hS'.2.2.2.2.2.2.2.1
  go_wp2_with fail
  go_ret
  exact ⟨rfl, hSb⟩
end Go.Proofs.YtfmdnmkojeolkaaDoor
