/-
  The law PeriodWeeks, walked: a period that is moved by a week.
-/
import Derived.Test.YtfmdnmkojeolkaaDoorPerAwake
namespace Go.Proofs.YtfmdnmkojeolkaaDoor
open Go.RowKit Go.Shelf

namespace Per
theorem wd_week (x : Int) : Cal.wd (x + 7) = Cal.wd x := by unfold Cal.wd; omega
theorem on_week (d x : Int) : on d (x + 7) = on d x := on_wd (wd_week x)
theorem has_week {f t d : Int} (h : chk ⟨f, t, d⟩ = 0) (h' : chk ⟨f + 7, t + 7, d⟩ = 0) (x : Int) : has ⟨f + 7, t + 7, d⟩ (x + 7) = has ⟨f, t, d⟩ x := by
  unfold has
  rw [h, h']
  dsimp only
  rw [on_week]
  congr 1
  apply decide_eq_decide.2
  constructor <;> (rintro ⟨-, a, b⟩; exact ⟨rfl, by omega, by omega⟩)
theorem days_week {f t d : Int} (h : chk ⟨f, t, d⟩ = 0) (h' : chk ⟨f + 7, t + 7, d⟩ = 0) : (days ⟨f + 7, t + 7, d⟩).length = (days ⟨f, t, d⟩).length := by
  have e : days ⟨f + 7, t + 7, d⟩ = (days ⟨f, t, d⟩).map (· + 7) := by
    symm
    apply days_ext
    · rw [List.pairwise_map]
      exact (days_sorted _).imp (fun h => by omega)
    · intro x
      rw [List.mem_map]
      constructor
      · rintro ⟨y, hy, rfl⟩
        rw [has_week h h']
        exact mem_days.1 hy
      · intro hx
        refine ⟨x - 7, mem_days.2 ?_, by omega⟩
        rw [← has_week h h', show x - 7 + 7 = x by omega]
        exact hx
  rw [e, List.length_map]
end Per

/-- What holds of a world while two periods lie in the two blocks that the call made first. -/
theorem h2_drew {w w1 : World} {p q : Per.P} (h : (w1.cell? ⟨w.heap.size, 0, none⟩ = some (.int .i64 p.f) ∧ w1.cell? ⟨w.heap.size, 1, none⟩ = some (.int .i64 p.t) ∧ w1.cell? ⟨w.heap.size, 2, none⟩ = some (.int .i64 p.d)) ∧ (w1.cell? ⟨w.heap.size + 1, 0, none⟩ = some (.int .i64 q.f) ∧ w1.cell? ⟨w.heap.size + 1, 1, none⟩ = some (.int .i64 q.t) ∧ w1.cell? ⟨w.heap.size + 1, 2, none⟩ = some (.int .i64 q.d)) ∧ HasLen w1 ∧ Below w.heap.size w w1 ∧ w.heap.size + 1 < w1.heap.size) :
    (w1.drew.cell? ⟨w.heap.size, 0, none⟩ = some (.int .i64 p.f) ∧ w1.drew.cell? ⟨w.heap.size, 1, none⟩ = some (.int .i64 p.t) ∧ w1.drew.cell? ⟨w.heap.size, 2, none⟩ = some (.int .i64 p.d)) ∧ (w1.drew.cell? ⟨w.heap.size + 1, 0, none⟩ = some (.int .i64 q.f) ∧ w1.drew.cell? ⟨w.heap.size + 1, 1, none⟩ = some (.int .i64 q.t) ∧ w1.drew.cell? ⟨w.heap.size + 1, 2, none⟩ = some (.int .i64 q.d)) ∧ HasLen w1.drew ∧ Below w.heap.size w w1.drew ∧ w.heap.size + 1 < w1.drew.heap.size :=
  ⟨h.1, h.2.1, h.2.2.1, h.2.2.2.1.drew, h.2.2.2.2⟩
theorem h2_bw {w w1 w2 : World} {p q : Per.P} (h : (w1.cell? ⟨w.heap.size, 0, none⟩ = some (.int .i64 p.f) ∧ w1.cell? ⟨w.heap.size, 1, none⟩ = some (.int .i64 p.t) ∧ w1.cell? ⟨w.heap.size, 2, none⟩ = some (.int .i64 p.d)) ∧ (w1.cell? ⟨w.heap.size + 1, 0, none⟩ = some (.int .i64 q.f) ∧ w1.cell? ⟨w.heap.size + 1, 1, none⟩ = some (.int .i64 q.t) ∧ w1.cell? ⟨w.heap.size + 1, 2, none⟩ = some (.int .i64 q.d)) ∧ HasLen w1 ∧ Below w.heap.size w w1 ∧ w.heap.size + 1 < w1.heap.size) (hb : Below w1.heap.size w1 w2) :
    (w2.cell? ⟨w.heap.size, 0, none⟩ = some (.int .i64 p.f) ∧ w2.cell? ⟨w.heap.size, 1, none⟩ = some (.int .i64 p.t) ∧ w2.cell? ⟨w.heap.size, 2, none⟩ = some (.int .i64 p.d)) ∧ (w2.cell? ⟨w.heap.size + 1, 0, none⟩ = some (.int .i64 q.f) ∧ w2.cell? ⟨w.heap.size + 1, 1, none⟩ = some (.int .i64 q.t) ∧ w2.cell? ⟨w.heap.size + 1, 2, none⟩ = some (.int .i64 q.d)) ∧ HasLen w2 ∧ Below w.heap.size w w2 ∧ w.heap.size + 1 < w2.heap.size := by
  obtain ⟨⟨a0, a1, a2⟩, ⟨b0, b1, b2⟩, hl, hB, hs⟩ := h
  have h0 : w.heap.size < w1.heap.size := by omega
  refine ⟨⟨(hb.cell (p := ⟨w.heap.size, 0, none⟩) h0).trans a0, (hb.cell (p := ⟨w.heap.size, 1, none⟩) h0).trans a1, (hb.cell (p := ⟨w.heap.size, 2, none⟩) h0).trans a2⟩, ⟨(hb.cell (p := ⟨w.heap.size + 1, 0, none⟩) hs).trans b0, (hb.cell (p := ⟨w.heap.size + 1, 1, none⟩) hs).trans b1, (hb.cell (p := ⟨w.heap.size + 1, 2, none⟩) hs).trans b2⟩, hl.below hb, hB.trans (hb.mono (by omega)), Nat.lt_of_lt_of_le hs hb.size⟩
theorem h2_len {W : World} {A B C : Prop} (h : A ∧ B ∧ HasLen W ∧ C) : HasLen W := h.2.2.1
theorem h2_below {w W : World} {A B C D : Prop} (h : A ∧ B ∧ C ∧ Below w.heap.size w W ∧ D) : Below w.heap.size w W := h.2.2.2.1

set_option maxHeartbeats 1000000 in
theorem weeks_any (p : Per.P) (day : Int) (w : World) (hl : HasLen w) :
    Calls Tryd.prog 12 #[pv p, .int .i64 day] w fun e w' => e = .returned (.bool true) ∧ Below w.heap.size w w' := by
  obtain ⟨a, ha⟩ : ∃ a, wrap64 (p.f + 7) = a := ⟨_, rfl⟩
  obtain ⟨b, hb⟩ : ∃ b, wrap64 (p.t + 7) = b := ⟨_, rfl⟩
  have hP := (Box3.new w 37 (.int .i64 p.f) (.int .i64 p.t) (.int .i64 p.d)).alloc (.cells #[.int .i64 a, .int .i64 b, .int .i64 p.d] 37)
  have hQ := Box3.new (w.alloc (.cells #[.int .i64 p.f, .int .i64 p.t, .int .i64 p.d] 37)) 37 (.int .i64 a) (.int .i64 b) (.int .i64 p.d)
  have hB0 := ((Below.refl w.heap.size w).alloc (Nat.le_refl _) (.cells #[.int .i64 p.f, .int .i64 p.t, .int .i64 p.d] 37)).alloc (by simp) (.cells #[.int .i64 a, .int .i64 b, .int .i64 p.d] 37)
  have hz : ((w.alloc (.cells #[.int .i64 p.f, .int .i64 p.t, .int .i64 p.d] 37)).alloc (.cells #[.int .i64 a, .int .i64 b, .int .i64 p.d] 37)).heap.size = w.heap.size + 1 + 1 := by simp
  simp only [World.size_alloc] at hQ
  have hqe : Per.chk p = 0 → a = p.f + 7 ∧ b = p.t + 7 := by
    intro h
    have h := Per.chk_ok.1 h
    subst ha hb
    unfold wrap64
    omega
  have HQ := Lib.hid hqe
  clear hqe
  go_enter Tryd.func12, Tryd.ntmps12
  go_wp2_with fail
  simp only [ha, hb]
  generalize (w.alloc (.cells #[.int .i64 p.f, .int .i64 p.t, .int .i64 p.d] 37)).alloc (.cells #[.int .i64 a, .int .i64 b, .int .i64 p.d] 37) = w3 at *
  refine (rCheck_any p _).mono ?_
  rintro e w4 ⟨rfl, hb4⟩
  have hP4 := hP.below hb4 (by omega)
  have hQ4 := hQ.below hb4 (by omega)
  have hB4 := hB0.trans (hb4.mono (by omega))
  have hz4 := hb4.size
  have hl4 := hl.below hB4
  clear hP hQ hb4
  by_cases h0 : Per.chk p = 0
  rotate_left
  · have h0' : (Per.chk p != 0) = true := by simpa using h0
    clear h0
    go_wp2_with (go_at_call 39; refine (pawake_any _ (by assumption)).mono ?_; rintro e w5 ⟨rfl, hb5⟩)
    go_ret
    exact ⟨rfl, hB4.trans (hb5.mono (by omega))⟩
  have h0' : (Per.chk p != 0) = false := by simpa using h0
  have H0 := Lib.hid h0
  have hc0 := hQ4.c0; have hc1 := hQ4.c1; have hc2 := hQ4.c2
  clear h0
  go_wp2_with fail
  refine (rCheck_any ⟨a, b, p.d⟩ _).mono ?_
  rintro e w5 ⟨rfl, hb5⟩
  have hP5 := hP4.below hb5 (by omega)
  have hQ5 := hQ4.below hb5 (by omega)
  have hB5 := hB4.trans (hb5.mono (by omega))
  have hz5 := hb5.size
  have hl5 := hl.below hB5
  clear hP4 hQ4 hb5 hl4 hc0 hc1 hc2
  by_cases h1 : Per.chk ⟨a, b, p.d⟩ = 0
  rotate_left
  · have h1' : (Per.chk ⟨a, b, p.d⟩ != 0) = true := by simpa using h1
    clear h1
    generalize Per.chk ⟨a, b, p.d⟩ = c1 at *
    go_wp2_with (go_at_call 39; refine (pawake_any _ (by assumption)).mono ?_; rintro e w6 ⟨rfl, hb6⟩)
    go_ret
    exact ⟨rfl, hB5.trans (hb6.mono (by omega))⟩
  have h1' : (Per.chk ⟨a, b, p.d⟩ != 0) = false := by simpa using h1
  have H1 := Lib.hid h1
  clear h1
  generalize hc1 : Per.chk ⟨a, b, p.d⟩ = c1 at h1' ⊢
  have HC := Lib.hid hc1
  clear hc1
  by_cases hd : 0 ≤ day ∧ day < 36525
  rotate_left
  · have hd' : day < 0 ∨ 36525 ≤ day := by omega
    rcases hd' with hd' | hd'
    all_goals
      clear hd
      go_wp2_with (go_at_call 39; refine (pawake_any _ (by assumption)).mono ?_; rintro e w6 ⟨rfl, hb6⟩)
      go_ret
      exact ⟨rfl, hB5.trans (hb6.mono (by omega))⟩
  obtain ⟨hd0, hd1⟩ := hd
  obtain ⟨rfl, rfl⟩ := HQ.out H0.out
  have H1' : Per.chk ⟨p.f + 7, p.t + 7, p.d⟩ = 0 := H1.out
  have e1 := Per.has_week H0.out H1' day
  have e2 := Per.days_week H0.out H1'
  have k1 : ∀ W, Calls Tryd.prog 42 #[.agg #[.int .i64 (p.f + 7), .int .i64 (p.t + 7), .int .i64 p.d], .int .i64 (day + 7)] W fun e w' => e = .returned (.bool (Per.has p day)) ∧ Below W.heap.size W w' := fun W => by
    have := Has_any ⟨p.f + 7, p.t + 7, p.d⟩ (day + 7) W
    rw [e1] at this
    exact this
  have k2 := fun W => Has_any p day W
  have k3 : ∀ W, Calls Tryd.prog 45 #[.agg #[.int .i64 (p.f + 7), .int .i64 (p.t + 7), .int .i64 p.d]] W fun e w' => e = .returned (.int .i64 ((Per.days p).length : Int)) ∧ Below W.heap.size W w' := fun W => by
    have := Count_any ⟨p.f + 7, p.t + 7, p.d⟩ W
    rw [e2] at this
    exact this
  have k4 := fun W => Count_any p W
  generalize Per.has p day = c at *
  generalize ((Per.days p).length : Int) = n at *
  have K1 := Lib.hid k1
  have K2 := Lib.hid k2
  have K3 := Lib.hid k3
  have K4 := Lib.hid k4
  have hS : (w5.cell? ⟨w.heap.size, 0, none⟩ = some (.int .i64 p.f) ∧ w5.cell? ⟨w.heap.size, 1, none⟩ = some (.int .i64 p.t) ∧ w5.cell? ⟨w.heap.size, 2, none⟩ = some (.int .i64 p.d)) ∧ (w5.cell? ⟨w.heap.size + 1, 0, none⟩ = some (.int .i64 (p.f + 7)) ∧ w5.cell? ⟨w.heap.size + 1, 1, none⟩ = some (.int .i64 (p.t + 7)) ∧ w5.cell? ⟨w.heap.size + 1, 2, none⟩ = some (.int .i64 p.d)) ∧ HasLen w5 ∧ Below w.heap.size w w5 ∧ w.heap.size + 1 < w5.heap.size := ⟨⟨hP5.c0, hP5.c1, hP5.c2⟩, ⟨hQ5.c0, hQ5.c1, hQ5.c2⟩, hl5, hB5, by omega⟩
  have hw7 : IntKind.i64.wrap (day + 7) = day + 7 := IntWalk.i64_in _ (by omega)
  have HW := Lib.hid hw7
  clear e1 e2 k1 k2 k3 k4 hP5 hQ5 ha hb hB0 hz hB4 hz4 hB5 hz5 hl5 hw7
  go_wp2_with fail
  have hw7 := HW.out
  go_region_held3 (fun w' => (w'.cell? ⟨w.heap.size, 0, none⟩ = some (.int .i64 p.f) ∧ w'.cell? ⟨w.heap.size, 1, none⟩ = some (.int .i64 p.t) ∧ w'.cell? ⟨w.heap.size, 2, none⟩ = some (.int .i64 p.d)) ∧ (w'.cell? ⟨w.heap.size + 1, 0, none⟩ = some (.int .i64 (p.f + 7)) ∧ w'.cell? ⟨w.heap.size + 1, 1, none⟩ = some (.int .i64 (p.t + 7)) ∧ w'.cell? ⟨w.heap.size + 1, 2, none⟩ = some (.int .i64 p.d)) ∧ HasLen w' ∧ Below w.heap.size w w' ∧ w.heap.size + 1 < w'.heap.size) (first | exact h2_drew (q := ⟨p.f + 7, p.t + 7, p.d⟩) hS | exact h2_bw (q := ⟨p.f + 7, p.t + 7, p.d⟩) (by assumption) (by assumption)) (first
    | (go_at_call 42; (first | (with_reducible refine (K1.out _).mono ?_) | (with_reducible refine (K2.out _).mono ?_)); rintro e w6 ⟨rfl, hb6⟩)
    | (go_at_call 45; (first | (with_reducible refine (K3.out _).mono ?_) | (with_reducible refine (K4.out _).mono ?_)); rintro e w6 ⟨rfl, hb6⟩)
    | (go_at_call 39; refine (pawake_any _ (h2_len (by assumption))).mono ?_; rintro e w6 ⟨rfl, hb6⟩))
  rename_i hS'
  go_wp2_with fail
  go_ret
  exact ⟨rfl, h2_below hS'⟩
end Go.Proofs.YtfmdnmkojeolkaaDoor
