/-
  within and Meet of layer 4.
-/
import Derived.Test.YtfmdnmkojeolkaaDoorPerNormal
namespace Go.Proofs.YtfmdnmkojeolkaaDoor
open Go.RowKit

theorem cell3_new (w : World) (x y z : Value) (T : TypeId) : Box3 (w.alloc (.cells #[x, y, z] T)) w.heap.size T x y z := Box3.new w T x y z

/-- The days of a period from one day to another one that are on weekdays. -/
def partDays (p : Per.P) (f t d : Int) : List Int := (Per.days p).filter fun x => decide (f ≤ x ∧ x ≤ t) && Per.on d x

theorem Normal_part (p : Per.P) (f t d a b : Int) (w : World) (hp : Per.chk p = 0) (hd0 : 0 ≤ d) (ha : a = max p.f f) (hb : b = min p.t t) :
    Calls Tryd.prog 32 #[.agg #[.int .i64 a, .int .i64 b, .int .i64 (Per.mand p.d d)]] w fun e w' => e = .returned (canonV (partDays p f t d)) ∧ Below w.heap.size w w' := by
  subst ha hb
  have := Normal_any ⟨max p.f f, min p.t t, Per.mand p.d d⟩ w
  rw [Per.days_part p hp f t d hd0] at this
  exact this

set_option maxHeartbeats 1000000 in
theorem within_any (p : Per.P) (f t d : Int) (w : World) (hp : Per.chk p = 0) (hd0 : 0 ≤ d) (hd1 : d ≤ 127) :
    Calls Tryd.prog 62 #[pv p, .int .i64 f, .int .i64 t, .int .i64 d] w fun e w' => e = .returned (canonV (partDays p f t d)) ∧ Below w.heap.size w w' := by
  obtain ⟨-, -, -, -, hq0, hq1⟩ := Per.chk_ok.1 hp
  have hand : bits .and .i64 p.d d = Per.mand p.d d := i64_and _ _ (by omega) (by omega) hd0 (by omega)
  have HP := Lib.hid hp
  clear hp
  have hR := Box3.new (w.alloc (.cells #[.int .i64 p.f, .int .i64 p.t, .int .i64 p.d] 37)) 37 (.int .i64 0) (.int .i64 0) (.int .i64 0)
  have hB0 := ((Below.refl w.heap.size w).alloc (Nat.le_refl _) (.cells #[.int .i64 p.f, .int .i64 p.t, .int .i64 p.d] 37)).alloc (by simp) (.cells #[.int .i64 0, .int .i64 0, .int .i64 0] 37)
  have hz : ((w.alloc (.cells #[.int .i64 p.f, .int .i64 p.t, .int .i64 p.d] 37)).alloc (.cells #[.int .i64 0, .int .i64 0, .int .i64 0] 37)).heap.size = w.heap.size + 1 + 1 := by simp
  simp only [World.size_alloc] at hR
  go_enter Tryd.func62, Tryd.ntmps62
  go_wp2_with fail
  all_goals
    generalize (w.alloc (.cells #[.int .i64 p.f, .int .i64 p.t, .int .i64 p.d] 37)).alloc (.cells #[.int .i64 0, .int .i64 0, .int .i64 0] 37) = w2 at *
    refine (Normal_part p f t d _ _ _ HP.out hd0 (by omega) (by omega)).mono ?_
    rintro e w1 ⟨rfl, hb⟩
    unfold canonV
    have hR1 := hR.below hb (by omega)
    have hr0 := hR1.c0; have hr1 := hR1.c1; have hr2 := hR1.c2
    have hf0 := hR1.f0 0; have hf1 := hR1.f0 1; have hf2 := hR1.f0 2
    have hB1 := hB0.trans (hb.mono (by omega))
    clear hR hR1 hB0 hb
    go_wp2_with fail
    refine bodyPost_ret (v := .tuple #[pv (Per.canon (partDays p f t d)), .bool (Per.ne (partDays p f t d))]) ?_ rfl ⟨rfl, ?_⟩
    · simp [results, Tryd.results62, go_sem, hr0, hr1, hr2]
    · exact ((hB1.setCell (p := ⟨w.heap.size + 1, 0, none⟩) (by dsimp only; omega) _).setCell (p := ⟨w.heap.size + 1, 1, none⟩) (by dsimp only; omega) _).setCell (p := ⟨w.heap.size + 1, 2, none⟩) (by dsimp only; omega) _

/-- The days of two periods that are in both. -/
def meetDays (a b : Per.P) : List Int := (Per.days a).filter (Per.has b)
theorem meet_part {a b : Per.P} (hb : Per.chk b = 0) : meetDays a b = partDays a b.f b.t b.d := by
  unfold meetDays partDays Per.has
  congr 1
  funext x
  simp [hb]
theorem meet_no {a b : Per.P} (h : ¬ (Per.chk a = 0 ∧ Per.chk b = 0)) : meetDays a b = [] := by
  unfold meetDays
  by_cases ha : Per.chk a = 0
  · have hb : ¬ Per.chk b = 0 := fun hb => h ⟨ha, hb⟩
    rw [List.filter_eq_nil_iff]
    intro x _
    rw [has_no (fun h => hb h.1)]
    simp
  · rw [Per.days_no ha]; rfl

set_option maxHeartbeats 1000000 in
theorem Meet_any (a b : Per.P) (w : World) :
    Calls Tryd.prog 34 #[pv a, pv b] w fun e w' => e = .returned (canonV (meetDays a b)) ∧ Below w.heap.size w w' := by
  have hA := ((Box3.new w 37 (.int .i64 a.f) (.int .i64 a.t) (.int .i64 a.d)).alloc (.cells #[.int .i64 b.f, .int .i64 b.t, .int .i64 b.d] 37)).alloc (.cells #[.int .i64 0, .int .i64 0, .int .i64 0] 37)
  have hBb := (Box3.new (w.alloc (.cells #[.int .i64 a.f, .int .i64 a.t, .int .i64 a.d] 37)) 37 (.int .i64 b.f) (.int .i64 b.t) (.int .i64 b.d)).alloc (.cells #[.int .i64 0, .int .i64 0, .int .i64 0] 37)
  have hR := Box3.new ((w.alloc (.cells #[.int .i64 a.f, .int .i64 a.t, .int .i64 a.d] 37)).alloc (.cells #[.int .i64 b.f, .int .i64 b.t, .int .i64 b.d] 37)) 37 (.int .i64 0) (.int .i64 0) (.int .i64 0)
  have hB0 := (((Below.refl w.heap.size w).alloc (Nat.le_refl _) (.cells #[.int .i64 a.f, .int .i64 a.t, .int .i64 a.d] 37)).alloc (by simp) (.cells #[.int .i64 b.f, .int .i64 b.t, .int .i64 b.d] 37)).alloc (by simp; omega) (.cells #[.int .i64 0, .int .i64 0, .int .i64 0] 37)
  have hz : (((w.alloc (.cells #[.int .i64 a.f, .int .i64 a.t, .int .i64 a.d] 37)).alloc (.cells #[.int .i64 b.f, .int .i64 b.t, .int .i64 b.d] 37)).alloc (.cells #[.int .i64 0, .int .i64 0, .int .i64 0] 37)).heap.size = w.heap.size + 1 + 1 + 1 := by simp
  simp only [World.size_alloc] at hBb hR
  go_enter Tryd.func34, Tryd.ntmps34
  go_wp2_with fail
  generalize ((w.alloc (.cells #[.int .i64 a.f, .int .i64 a.t, .int .i64 a.d] 37)).alloc (.cells #[.int .i64 b.f, .int .i64 b.t, .int .i64 b.d] 37)).alloc (.cells #[.int .i64 0, .int .i64 0, .int .i64 0] 37) = w3 at *
  refine (Check_any a _).mono ?_
  rintro e w4 ⟨rfl, hb4⟩
  have hA4 := hA.below hb4 (by omega)
  have hBb4 := hBb.below hb4 (by omega)
  have hR4 := hR.below hb4 (by omega)
  have hB4 := hB0.trans (hb4.mono (by omega))
  have hz4 := hb4.size
  by_cases h0 : Per.chk a = 0
  rotate_left
  · have E := Lib.hid (meet_no (b := b) (fun h => h0 h.1))
    have h0' : (Per.chk a != 0) = true := by simpa using h0
    have hr0 := hR4.c0; have hr1 := hR4.c1; have hr2 := hR4.c2
    have hf0 := hR4.f0 0; have hf1 := hR4.f0 1; have hf2 := hR4.f0 2
    clear h0 hA hBb hR hA4 hBb4 hR4 hb4
    go_wp2_with fail
    refine bodyPost_ret (v := .tuple #[.agg #[.int .i64 0, .int .i64 0, .int .i64 0], .bool false]) ?_ rfl ⟨by rw [E.out]; rfl, ?_⟩
    · simp [results, Tryd.results34, go_sem, hr0, hr1, hr2]
    · exact ((hB4.setCell (p := ⟨w.heap.size + 1 + 1, 0, none⟩) (by dsimp only; omega) _).setCell (p := ⟨w.heap.size + 1 + 1, 1, none⟩) (by dsimp only; omega) _).setCell (p := ⟨w.heap.size + 1 + 1, 2, none⟩) (by dsimp only; omega) _
  have h0' : (Per.chk a != 0) = false := by simpa using h0
  have H0 := Lib.hid h0
  have hc0 := hBb4.c0; have hc1 := hBb4.c1; have hc2 := hBb4.c2
  clear h0 hA hBb hR hb4
  go_wp2_with fail
  refine (Check_any b _).mono ?_
  rintro e w5 ⟨rfl, hb5⟩
  have hA5 := hA4.below hb5 (by omega)
  have hBb5 := hBb4.below hb5 (by omega)
  have hR5 := hR4.below hb5 (by omega)
  have hB5 := hB4.trans (hb5.mono (by omega))
  have hz5 := hb5.size
  clear hc0 hc1 hc2 hA4 hBb4 hR4
  by_cases h1 : Per.chk b = 0
  rotate_left
  · have E := Lib.hid (meet_no (a := a) (fun h => h1 h.2))
    have h1' : (Per.chk b != 0) = true := by simpa using h1
    have hr0 := hR5.c0; have hr1 := hR5.c1; have hr2 := hR5.c2
    have hf0 := hR5.f0 0; have hf1 := hR5.f0 1; have hf2 := hR5.f0 2
    clear h1 hA5 hBb5 hR5 hb5
    go_wp2_with fail
    refine bodyPost_ret (v := .tuple #[.agg #[.int .i64 0, .int .i64 0, .int .i64 0], .bool false]) ?_ rfl ⟨by rw [E.out]; rfl, ?_⟩
    · simp [results, Tryd.results34, go_sem, hr0, hr1, hr2]
    · exact ((hB5.setCell (p := ⟨w.heap.size + 1 + 1, 0, none⟩) (by dsimp only; omega) _).setCell (p := ⟨w.heap.size + 1 + 1, 1, none⟩) (by dsimp only; omega) _).setCell (p := ⟨w.heap.size + 1 + 1, 2, none⟩) (by dsimp only; omega) _
  have h1' : (Per.chk b != 0) = false := by simpa using h1
  have E := Lib.hid (meet_part (a := a) h1)
  obtain ⟨-, -, -, -, hq0, hq1⟩ := Per.chk_ok.1 h1
  have ha0 := hA5.c0; have ha1 := hA5.c1; have ha2 := hA5.c2
  have hc0 := hBb5.c0; have hc1 := hBb5.c1; have hc2 := hBb5.c2
  clear h1 hb5 hA5 hBb5
  go_wp2_with fail
  refine (within_any a b.f b.t b.d _ H0.out (by omega) hq1).mono ?_
  rintro e w6 ⟨rfl, hb6⟩
  unfold canonV
  have hR6 := hR5.below hb6 (by omega)
  have hr0 := hR6.c0; have hr1 := hR6.c1; have hr2 := hR6.c2
  have hf0 := hR6.f0 0; have hf1 := hR6.f0 1; have hf2 := hR6.f0 2
  have hB6 := hB5.trans (hb6.mono (by omega))
  clear hR5 hR6 hb6 ha0 ha1 ha2 hc0 hc1 hc2
  go_wp2_with fail
  refine bodyPost_ret (v := .tuple #[pv (Per.canon (partDays a b.f b.t b.d)), .bool (Per.ne (partDays a b.f b.t b.d))]) ?_ rfl ⟨by rw [E.out]; rfl, ?_⟩
  · simp [results, Tryd.results34, go_sem, hr0, hr1, hr2]
  · exact ((hB6.setCell (p := ⟨w.heap.size + 1 + 1, 0, none⟩) (by dsimp only; omega) _).setCell (p := ⟨w.heap.size + 1 + 1, 1, none⟩) (by dsimp only; omega) _).setCell (p := ⟨w.heap.size + 1 + 1, 2, none⟩) (by dsimp only; omega) _
end Go.Proofs.YtfmdnmkojeolkaaDoor
