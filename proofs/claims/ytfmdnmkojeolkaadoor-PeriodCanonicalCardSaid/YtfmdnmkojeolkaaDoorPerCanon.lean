/-
  The law PeriodCanonical, walked: equal sets have equal canonical periods; Meet is commutative and idempotent.
-/
import Derived.Test.YtfmdnmkojeolkaaDoorPerParts
import Derived.Test.YtfmdnmkojeolkaaDoorPerDays
namespace Go.Proofs.YtfmdnmkojeolkaaDoor
open Go.RowKit Go.Shelf

theorem meet_comm (a b : Per.P) : meetDays a b = meetDays b a := by
  refine Per.sorted_ext ((Per.days_sorted a).filter _) ((Per.days_sorted b).filter _) (fun x => ?_)
  unfold meetDays
  rw [List.mem_filter, List.mem_filter, Per.mem_days, Per.mem_days]
  exact And.comm
theorem meet_self (a : Per.P) : meetDays a a = Per.days a := by
  unfold meetDays
  rw [List.filter_eq_self]
  intro x hx
  exact Per.mem_days.1 hx
theorem canon_ne {a b : Per.P} (h : ¬ Per.days a = Per.days b) : ¬ Per.canon (Per.days a) = Per.canon (Per.days b) := fun e => h (Per.canon_inj e)
theorem per_ne {x y : Per.P} (h : ¬ x = y) : ((x.f == y.f) = false) ∨ ((x.f == y.f) = true ∧ (x.t == y.t) = false) ∨ ((x.f == y.f) = true ∧ (x.t == y.t) = true ∧ (x.d == y.d) = false) := by
  cases x; cases y
  simp only [Per.P.mk.injEq, not_and, beq_eq_false_iff_ne, beq_iff_eq, ne_eq] at *
  rename_i a b c d e f
  by_cases h1 : a = d
  · by_cases h2 : b = e
    · exact .inr (.inr ⟨h1, h2, h h1 h2⟩)
    · exact .inr (.inl ⟨h1, h2⟩)
  · exact .inl h1
theorem s4_drew {w w1 : World} {B0 B1 B2 B3 : Nat} {p0 p1 p2 p3 : Per.P} (h : (w1.cell? ⟨B0, 0, none⟩ = some (.int .i64 p0.f) ∧ w1.cell? ⟨B0, 1, none⟩ = some (.int .i64 p0.t) ∧ w1.cell? ⟨B0, 2, none⟩ = some (.int .i64 p0.d)) ∧ (w1.cell? ⟨B1, 0, none⟩ = some (.int .i64 p1.f) ∧ w1.cell? ⟨B1, 1, none⟩ = some (.int .i64 p1.t) ∧ w1.cell? ⟨B1, 2, none⟩ = some (.int .i64 p1.d)) ∧ (w1.cell? ⟨B2, 0, none⟩ = some (.int .i64 p2.f) ∧ w1.cell? ⟨B2, 1, none⟩ = some (.int .i64 p2.t) ∧ w1.cell? ⟨B2, 2, none⟩ = some (.int .i64 p2.d)) ∧ (w1.cell? ⟨B3, 0, none⟩ = some (.int .i64 p3.f) ∧ w1.cell? ⟨B3, 1, none⟩ = some (.int .i64 p3.t) ∧ w1.cell? ⟨B3, 2, none⟩ = some (.int .i64 p3.d)) ∧ HasLen w1 ∧ Below w.heap.size w w1 ∧ B0 < w1.heap.size ∧ B1 < w1.heap.size ∧ B2 < w1.heap.size ∧ B3 < w1.heap.size ∧ w.heap.size ≤ w1.heap.size) : (w1.drew.cell? ⟨B0, 0, none⟩ = some (.int .i64 p0.f) ∧ w1.drew.cell? ⟨B0, 1, none⟩ = some (.int .i64 p0.t) ∧ w1.drew.cell? ⟨B0, 2, none⟩ = some (.int .i64 p0.d)) ∧ (w1.drew.cell? ⟨B1, 0, none⟩ = some (.int .i64 p1.f) ∧ w1.drew.cell? ⟨B1, 1, none⟩ = some (.int .i64 p1.t) ∧ w1.drew.cell? ⟨B1, 2, none⟩ = some (.int .i64 p1.d)) ∧ (w1.drew.cell? ⟨B2, 0, none⟩ = some (.int .i64 p2.f) ∧ w1.drew.cell? ⟨B2, 1, none⟩ = some (.int .i64 p2.t) ∧ w1.drew.cell? ⟨B2, 2, none⟩ = some (.int .i64 p2.d)) ∧ (w1.drew.cell? ⟨B3, 0, none⟩ = some (.int .i64 p3.f) ∧ w1.drew.cell? ⟨B3, 1, none⟩ = some (.int .i64 p3.t) ∧ w1.drew.cell? ⟨B3, 2, none⟩ = some (.int .i64 p3.d)) ∧ HasLen w1.drew ∧ Below w.heap.size w w1.drew ∧ B0 < w1.drew.heap.size ∧ B1 < w1.drew.heap.size ∧ B2 < w1.drew.heap.size ∧ B3 < w1.drew.heap.size ∧ w.heap.size ≤ w1.drew.heap.size := by
  obtain ⟨h0, h1, h2, h3, hl, hB, hs⟩ := h
  exact ⟨h0, h1, h2, h3, hl, hB.drew, hs⟩
theorem s4_bw {w w1 w2 : World} {B0 B1 B2 B3 : Nat} {p0 p1 p2 p3 : Per.P} (h : (w1.cell? ⟨B0, 0, none⟩ = some (.int .i64 p0.f) ∧ w1.cell? ⟨B0, 1, none⟩ = some (.int .i64 p0.t) ∧ w1.cell? ⟨B0, 2, none⟩ = some (.int .i64 p0.d)) ∧ (w1.cell? ⟨B1, 0, none⟩ = some (.int .i64 p1.f) ∧ w1.cell? ⟨B1, 1, none⟩ = some (.int .i64 p1.t) ∧ w1.cell? ⟨B1, 2, none⟩ = some (.int .i64 p1.d)) ∧ (w1.cell? ⟨B2, 0, none⟩ = some (.int .i64 p2.f) ∧ w1.cell? ⟨B2, 1, none⟩ = some (.int .i64 p2.t) ∧ w1.cell? ⟨B2, 2, none⟩ = some (.int .i64 p2.d)) ∧ (w1.cell? ⟨B3, 0, none⟩ = some (.int .i64 p3.f) ∧ w1.cell? ⟨B3, 1, none⟩ = some (.int .i64 p3.t) ∧ w1.cell? ⟨B3, 2, none⟩ = some (.int .i64 p3.d)) ∧ HasLen w1 ∧ Below w.heap.size w w1 ∧ B0 < w1.heap.size ∧ B1 < w1.heap.size ∧ B2 < w1.heap.size ∧ B3 < w1.heap.size ∧ w.heap.size ≤ w1.heap.size) (hb : Below w1.heap.size w1 w2) : (w2.cell? ⟨B0, 0, none⟩ = some (.int .i64 p0.f) ∧ w2.cell? ⟨B0, 1, none⟩ = some (.int .i64 p0.t) ∧ w2.cell? ⟨B0, 2, none⟩ = some (.int .i64 p0.d)) ∧ (w2.cell? ⟨B1, 0, none⟩ = some (.int .i64 p1.f) ∧ w2.cell? ⟨B1, 1, none⟩ = some (.int .i64 p1.t) ∧ w2.cell? ⟨B1, 2, none⟩ = some (.int .i64 p1.d)) ∧ (w2.cell? ⟨B2, 0, none⟩ = some (.int .i64 p2.f) ∧ w2.cell? ⟨B2, 1, none⟩ = some (.int .i64 p2.t) ∧ w2.cell? ⟨B2, 2, none⟩ = some (.int .i64 p2.d)) ∧ (w2.cell? ⟨B3, 0, none⟩ = some (.int .i64 p3.f) ∧ w2.cell? ⟨B3, 1, none⟩ = some (.int .i64 p3.t) ∧ w2.cell? ⟨B3, 2, none⟩ = some (.int .i64 p3.d)) ∧ HasLen w2 ∧ Below w.heap.size w w2 ∧ B0 < w2.heap.size ∧ B1 < w2.heap.size ∧ B2 < w2.heap.size ∧ B3 < w2.heap.size ∧ w.heap.size ≤ w2.heap.size := by
  obtain ⟨⟨a0, b0, c0⟩, ⟨a1, b1, c1⟩, ⟨a2, b2, c2⟩, ⟨a3, b3, c3⟩, hl, hB, s0, s1, s2, s3, hz⟩ := h
  exact ⟨⟨(hb.cell (p := ⟨B0, 0, none⟩) s0).trans a0, (hb.cell (p := ⟨B0, 1, none⟩) s0).trans b0, (hb.cell (p := ⟨B0, 2, none⟩) s0).trans c0⟩, ⟨(hb.cell (p := ⟨B1, 0, none⟩) s1).trans a1, (hb.cell (p := ⟨B1, 1, none⟩) s1).trans b1, (hb.cell (p := ⟨B1, 2, none⟩) s1).trans c1⟩, ⟨(hb.cell (p := ⟨B2, 0, none⟩) s2).trans a2, (hb.cell (p := ⟨B2, 1, none⟩) s2).trans b2, (hb.cell (p := ⟨B2, 2, none⟩) s2).trans c2⟩, ⟨(hb.cell (p := ⟨B3, 0, none⟩) s3).trans a3, (hb.cell (p := ⟨B3, 1, none⟩) s3).trans b3, (hb.cell (p := ⟨B3, 2, none⟩) s3).trans c3⟩, hl.below hb, hB.trans (hb.mono hz), Nat.lt_of_lt_of_le s0 hb.size, Nat.lt_of_lt_of_le s1 hb.size, Nat.lt_of_lt_of_le s2 hb.size, Nat.lt_of_lt_of_le s3 hb.size, Nat.le_trans hz hb.size⟩

theorem s4_len {W : World} {A B C D E : Prop} (h : A ∧ B ∧ C ∧ D ∧ HasLen W ∧ E) : HasLen W := h.2.2.2.2.1

set_option maxHeartbeats 2000000 in
theorem canonical_any (a b : Per.P) (w : World) (hl : HasLen w) :
    Calls Tryd.prog 10 #[pv a, pv b] w fun e w' => e = .returned (.bool true) ∧ Below w.heap.size w w' := by
  have hT := two_new w a b
  have hB0 := ((Below.refl w.heap.size w).alloc (Nat.le_refl _) (.cells #[.int .i64 a.f, .int .i64 a.t, .int .i64 a.d] 37)).alloc (by simp) (.cells #[.int .i64 b.f, .int .i64 b.t, .int .i64 b.d] 37)
  have hz : ((w.alloc (.cells #[.int .i64 a.f, .int .i64 a.t, .int .i64 a.d] 37)).alloc (.cells #[.int .i64 b.f, .int .i64 b.t, .int .i64 b.d] 37)).heap.size = w.heap.size + 1 + 1 := by simp
  have ha0 := hT.1.c0; have ha1 := hT.1.c1; have ha2 := hT.1.c2
  have hb0 := hT.2.c0; have hb1 := hT.2.c1; have hb2 := hT.2.c2
  have hla := Per.days_len a
  have hlb := Per.days_len b
  have hma : (Per.days a).length ≤ maxLen := by unfold maxLen; omega
  have hmb : (Per.days b).length ≤ maxLen := by unfold maxLen; omega
  have HMa := Lib.hid hma
  have HMb := Lib.hid hmb
  clear hma hmb hla hlb
  obtain ⟨x, hx⟩ : ∃ x, Per.canon (Per.days a) = x := ⟨_, rfl⟩
  obtain ⟨y, hy⟩ : ∃ y, Per.canon (Per.days b) = y := ⟨_, rfl⟩
  obtain ⟨ok, hok⟩ : ∃ ok, Per.ne (Per.days a) = ok := ⟨_, rfl⟩
  obtain ⟨is, his⟩ : ∃ is, Per.ne (Per.days b) = is := ⟨_, rfl⟩
  have k1 := fun W => Normal_any a W
  have k2 := fun W => Normal_any b W
  unfold canonV at k1 k2
  rw [hx, hok] at k1
  rw [hy, his] at k2
  have K1 := Lib.hid k1
  have K2 := Lib.hid k2
  have HX := Lib.hid hx
  have HY := Lib.hid hy
  have HOK := Lib.hid hok
  have HIS := Lib.hid his
  clear k1 k2 hx hy hok his
  go_enter Tryd.func10, Tryd.ntmps10
  go_wp2_with fail
  generalize (w.alloc (.cells #[.int .i64 a.f, .int .i64 a.t, .int .i64 a.d] 37)).alloc (.cells #[.int .i64 b.f, .int .i64 b.t, .int .i64 b.d] 37) = w3 at *
  refine (K1.out _).mono ?_
  rintro e w4 ⟨rfl, hb4⟩
  have hT4 := hT.below hb4 (by omega)
  have hB4 := hB0.trans (hb4.mono (by omega))
  have hz4 := hb4.size
  clear ha0 ha1 ha2 hb0 hb1 hb2 hT hb4 hB0
  have hb0 := (hT4.2.alloc (.cells #[.int .i64 x.f, .int .i64 x.t, .int .i64 x.d] 37)).c0; have hb1 := (hT4.2.alloc (.cells #[.int .i64 x.f, .int .i64 x.t, .int .i64 x.d] 37)).c1; have hb2 := (hT4.2.alloc (.cells #[.int .i64 x.f, .int .i64 x.t, .int .i64 x.d] 37)).c2
  go_wp2_with fail
  have hX5 := Box3.new w4 37 (.int .i64 x.f) (.int .i64 x.t) (.int .i64 x.d)
  have hT5 : Two w (w4.alloc (.cells #[.int .i64 x.f, .int .i64 x.t, .int .i64 x.d] 37)) a b := ⟨hT4.1.alloc _, hT4.2.alloc _⟩
  have hB5 := hB4.alloc (by omega) (.cells #[.int .i64 x.f, .int .i64 x.t, .int .i64 x.d] 37)
  have hz5 : (w4.alloc (.cells #[.int .i64 x.f, .int .i64 x.t, .int .i64 x.d] 37)).heap.size = w4.heap.size + 1 := by simp
  clear hT4 hB4 hb0 hb1 hb2
  generalize w4.alloc (.cells #[.int .i64 x.f, .int .i64 x.t, .int .i64 x.d] 37) = w5 at *
  refine (K2.out _).mono ?_
  rintro e w6 ⟨rfl, hb6⟩
  have hX6 := hX5.below hb6 (by omega)
  have hT6 := hT5.below hb6 (by omega)
  have hB6 := hB5.trans (hb6.mono (by omega))
  have hz6 := hb6.size
  clear hX5 hT5 hB5 hb6
  go_wp2_with fail
  have hY7 := Box3.new w6 37 (.int .i64 y.f) (.int .i64 y.t) (.int .i64 y.d)
  have hX7 := hX6.alloc (.cells #[.int .i64 y.f, .int .i64 y.t, .int .i64 y.d] 37)
  have hT7 : Two w (w6.alloc (.cells #[.int .i64 y.f, .int .i64 y.t, .int .i64 y.d] 37)) a b := ⟨hT6.1.alloc _, hT6.2.alloc _⟩
  have hB7 := hB6.alloc (by omega) (.cells #[.int .i64 y.f, .int .i64 y.t, .int .i64 y.d] 37)
  have hz7 : (w6.alloc (.cells #[.int .i64 y.f, .int .i64 y.t, .int .i64 y.d] 37)).heap.size = w6.heap.size + 1 := by simp
  clear hX6 hT6 hB6
  generalize w6.alloc (.cells #[.int .i64 y.f, .int .i64 y.t, .int .i64 y.d] 37) = w7 at *
  have hS : (w7.cell? ⟨w.heap.size, 0, none⟩ = some (.int .i64 a.f) ∧ w7.cell? ⟨w.heap.size, 1, none⟩ = some (.int .i64 a.t) ∧ w7.cell? ⟨w.heap.size, 2, none⟩ = some (.int .i64 a.d)) ∧ (w7.cell? ⟨(w.heap.size + 1), 0, none⟩ = some (.int .i64 b.f) ∧ w7.cell? ⟨(w.heap.size + 1), 1, none⟩ = some (.int .i64 b.t) ∧ w7.cell? ⟨(w.heap.size + 1), 2, none⟩ = some (.int .i64 b.d)) ∧ (w7.cell? ⟨w4.heap.size, 0, none⟩ = some (.int .i64 x.f) ∧ w7.cell? ⟨w4.heap.size, 1, none⟩ = some (.int .i64 x.t) ∧ w7.cell? ⟨w4.heap.size, 2, none⟩ = some (.int .i64 x.d)) ∧ (w7.cell? ⟨w6.heap.size, 0, none⟩ = some (.int .i64 y.f) ∧ w7.cell? ⟨w6.heap.size, 1, none⟩ = some (.int .i64 y.t) ∧ w7.cell? ⟨w6.heap.size, 2, none⟩ = some (.int .i64 y.d)) ∧ HasLen w7 ∧ Below w.heap.size w w7 ∧ w.heap.size < w7.heap.size ∧ (w.heap.size + 1) < w7.heap.size ∧ w4.heap.size < w7.heap.size ∧ w6.heap.size < w7.heap.size ∧ w.heap.size ≤ w7.heap.size := ⟨⟨hT7.1.c0, hT7.1.c1, hT7.1.c2⟩, ⟨hT7.2.c0, hT7.2.c1, hT7.2.c2⟩, ⟨hX7.c0, hX7.c1, hX7.c2⟩, ⟨hY7.c0, hY7.c1, hY7.c2⟩, hl.below hB7, hB7, by omega, by omega, by omega, by omega, by omega⟩
  clear hY7 hX7 hT7 hB7
  have k3 := fun W => rDays_any a W
  have k4 := fun W => rDays_any b W
  have k5 := same_any (Per.days a) (Per.days b)
  have K3 := Lib.hid k3
  have K4 := Lib.hid k4
  obtain ⟨v, hv⟩ : ∃ v, Per.canon (meetDays a b) = v := ⟨_, rfl⟩
  obtain ⟨hs, hhs⟩ : ∃ hs, Per.ne (meetDays a b) = hs := ⟨_, rfl⟩
  have k6 := fun W => Meet_any a b W
  have k7 := fun W => Meet_any b a W
  have k8 := fun W => Meet_any a a W
  have k9 := fun W => Normal_any (Per.canon (Per.days a)) W
  unfold canonV at k6 k7 k8 k9
  rw [hv, hhs] at k6
  rw [meet_comm b a, hv, hhs] at k7
  rw [meet_self a] at k8
  rw [Per.days_canon a, HX.out, HOK.out] at k9
  rw [HX.out, HOK.out] at k8
  have K6 := Lib.hid k6
  have K7 := Lib.hid k7
  have K8 := Lib.hid k8
  have K9 := Lib.hid k9
  clear k3 k4 k6 k7 k8 k9 hv hhs
  by_cases hio : ok = is
  rotate_left
  -- one of the two sets is empty, the other one is not
  have hd : ¬ Per.days a = Per.days b := fun e => hio (by rw [← HOK.out, ← HIS.out, e])
  rw [decide_eq_false hd] at k5
  have K5 := Lib.hid k5
  have hio' : (ok == is) = false := by simpa using hio
  clear k5 hd hio
  refine wp_region_held_drew (S := fun w' => (w'.cell? ⟨w.heap.size, 0, none⟩ = some (.int .i64 a.f) ∧ w'.cell? ⟨w.heap.size, 1, none⟩ = some (.int .i64 a.t) ∧ w'.cell? ⟨w.heap.size, 2, none⟩ = some (.int .i64 a.d)) ∧ (w'.cell? ⟨(w.heap.size + 1), 0, none⟩ = some (.int .i64 b.f) ∧ w'.cell? ⟨(w.heap.size + 1), 1, none⟩ = some (.int .i64 b.t) ∧ w'.cell? ⟨(w.heap.size + 1), 2, none⟩ = some (.int .i64 b.d)) ∧ (w'.cell? ⟨w4.heap.size, 0, none⟩ = some (.int .i64 x.f) ∧ w'.cell? ⟨w4.heap.size, 1, none⟩ = some (.int .i64 x.t) ∧ w'.cell? ⟨w4.heap.size, 2, none⟩ = some (.int .i64 x.d)) ∧ (w'.cell? ⟨w6.heap.size, 0, none⟩ = some (.int .i64 y.f) ∧ w'.cell? ⟨w6.heap.size, 1, none⟩ = some (.int .i64 y.t) ∧ w'.cell? ⟨w6.heap.size, 2, none⟩ = some (.int .i64 y.d)) ∧ HasLen w' ∧ Below w.heap.size w w' ∧ w.heap.size < w'.heap.size ∧ (w.heap.size + 1) < w'.heap.size ∧ w4.heap.size < w'.heap.size ∧ w6.heap.size < w'.heap.size ∧ w.heap.size ≤ w'.heap.size) (by kernel_rfl) ?_ (fun hHeld => ?_)
  · exact s4_drew hS
  refine reg_on (v := ?_) [] rfl (by kernel_rfl) (by kernel_rfl) (by kernel_rfl) (fun _ _ _ h => h) (by rfl) (by assumption) (fun w hSw => ?_) ?_
  rotate_left
  · (try dsimp only at hSw); go_simp; (try with_reducible rfl)
  try simp only [Act.put, List.setIfInBounds_toArray, List.set_cons_zero, List.set_cons_succ]
  refine reg_on (v := ?_) [_] rfl (by kernel_rfl) (by kernel_rfl) (by kernel_rfl) (fun _ _ _ h => h) (by rfl) (by assumption) (fun w hSw => ?_) ?_
  rotate_left
  · (try dsimp only at hSw); go_simp; (try with_reducible rfl)
  try simp only [Act.put, List.setIfInBounds_toArray, List.set_cons_zero, List.set_cons_succ]
  refine reg_on (v := ?_) [_, _] rfl (by kernel_rfl) (by kernel_rfl) (by kernel_rfl) (fun _ _ _ h => h) (by rfl) (by assumption) (fun w hSw => ?_) ?_
  rotate_left
  · (try dsimp only at hSw); go_simp; (try with_reducible rfl)
  try simp only [Act.put, List.setIfInBounds_toArray, List.set_cons_zero, List.set_cons_succ]
  refine reg_on (v := ?_) [_, _, _] rfl (by kernel_rfl) (by kernel_rfl) (by kernel_rfl) (fun _ _ _ h => h) (by rfl) (by assumption) (fun w hSw => ?_) ?_
  rotate_left
  · (try dsimp only at hSw); go_simp; (try with_reducible rfl)
  try simp only [Act.put, List.setIfInBounds_toArray, List.set_cons_zero, List.set_cons_succ]
  refine reg_off [_, _, _, _] rfl (by kernel_rfl) (by kernel_rfl) (by kernel_rfl) (fun _ _ _ h => h) (by rfl) (by assumption) ?_
  try simp only [Act.put, List.setIfInBounds_toArray, List.set_cons_zero, List.set_cons_succ]
  refine reg_off [_, _, _, _, _] rfl (by kernel_rfl) (by kernel_rfl) (by kernel_rfl) (fun _ _ _ h => h) (by rfl) (by assumption) ?_
  try simp only [Act.put, List.setIfInBounds_toArray, List.set_cons_zero, List.set_cons_succ]
  refine reg_off [_, _, _, _, _, _] rfl (by kernel_rfl) (by kernel_rfl) (by kernel_rfl) (fun _ _ _ h => h) (by rfl) (by assumption) ?_
  try simp only [Act.put, List.setIfInBounds_toArray, List.set_cons_zero, List.set_cons_succ]
  refine reg_on (v := ?_) [_, _, _, _, _, _, _] rfl (by kernel_rfl) (by kernel_rfl) (by kernel_rfl) (fun _ _ _ h => h) (by rfl) (by assumption) (fun w hSw => ?_) ?_
  rotate_left
  · (try dsimp only at hSw); go_simp; (try with_reducible rfl)
  try simp only [Act.put, List.setIfInBounds_toArray, List.set_cons_zero, List.set_cons_succ]
  refine reg_on (v := ?_) [_, _, _, _, _, _, _, _] rfl (by kernel_rfl) (by kernel_rfl) (by kernel_rfl) (fun _ _ _ h => h) (by rfl) (by assumption) (fun w hSw => ?_) ?_
  rotate_left
  · (try dsimp only at hSw); go_simp; (try with_reducible rfl)
  try simp only [Act.put, List.setIfInBounds_toArray, List.set_cons_zero, List.set_cons_succ]
  refine reg_on (v := ?_) [_, _, _, _, _, _, _, _, _, _] rfl (by kernel_rfl) (by kernel_rfl) (by kernel_rfl) (fun _ _ _ h => h) (by rfl) (by assumption) (fun w hSw => ?_) ?_
  rotate_left
  · (try dsimp only at hSw); go_simp; (try with_reducible rfl)
  try simp only [Act.put, List.setIfInBounds_toArray, List.set_cons_zero, List.set_cons_succ]
  refine reg_one [_, _, _, _, _, _, _, _, _] rfl (by kernel_rfl) (by rfl) (fun K hK => ?_)
  go_simp
  refine (K3.out _).mono ?_
  rintro e w8 ⟨v8, rfl, hv8, hb8⟩
  have hi6 := hv8.intsAt HMa.out
  clear hv8
  go_wp2_with fail
  refine hK.out _ _ ?_ (fun hHeld => ?_)
  · exact s4_bw (by assumption) (by assumption)
  clear hK K
  try simp only [Act.put, List.setIfInBounds_toArray, List.set_cons_zero, List.set_cons_succ]
  refine reg_one [_, _, _, _, _, _, _, _, _, _, _] rfl (by kernel_rfl) (by rfl) (fun K hK => ?_)
  go_simp
  refine (K4.out _).mono ?_
  rintro e w9 ⟨v9, rfl, hv9, hb8⟩
  have hi7 := hv9.intsAt HMb.out
  have hi8 := IntsAt.below hi6 hb8
  clear hv9 hi6
  go_wp2_with fail
  refine hK.out _ _ ?_ (fun hHeld => ?_)
  · exact s4_bw (by assumption) (by assumption)
  clear hK K
  try simp only [Act.put, List.setIfInBounds_toArray, List.set_cons_zero, List.set_cons_succ]
  refine reg_one [_, _, _, _, _, _, _, _, _, _, _, _] rfl (by kernel_rfl) (by rfl) (fun K hK => ?_)
  go_simp
  refine (K5.out _ _ _ hi8 hi7).mono ?_
  rintro e w2 ⟨rfl, hb8⟩
  clear hi8 hi7
  go_wp2_with fail
  refine hK.out _ _ ?_ (fun hHeld => ?_)
  · exact s4_bw (by assumption) (by assumption)
  clear hK K
  try simp only [Act.put, List.setIfInBounds_toArray, List.set_cons_zero, List.set_cons_succ]
  refine reg_on (v := ?_) [_, _, _, _, _, _, _, _, _, _, _, _, _] rfl (by kernel_rfl) (by kernel_rfl) (by kernel_rfl) (fun _ _ _ h => h) (by rfl) (by assumption) (fun w hSw => ?_) ?_
  rotate_left
  · (try dsimp only at hSw); go_simp; (try with_reducible rfl)
  try simp only [Act.put, List.setIfInBounds_toArray, List.set_cons_zero, List.set_cons_succ]
  refine wpAnyH_done (by kernel_rfl) ?_ _
  have hS' := hHeld
  clear hHeld K5 hS
  rotate_left
  -- both are empty, or none is
  have hio' : (ok == is) = true := by simpa using hio
  rcases Decidable.em (Per.days a = Per.days b) with hd | hd
  obtain rfl : x = y := by rw [← HX.out, ← HY.out, hd]
  rw [decide_eq_true hd] at k5
  have K5 := Lib.hid k5
  clear k5 hd hio
  focus
    go_region_held3 (fun w' => (w'.cell? ⟨w.heap.size, 0, none⟩ = some (.int .i64 a.f) ∧ w'.cell? ⟨w.heap.size, 1, none⟩ = some (.int .i64 a.t) ∧ w'.cell? ⟨w.heap.size, 2, none⟩ = some (.int .i64 a.d)) ∧ (w'.cell? ⟨(w.heap.size + 1), 0, none⟩ = some (.int .i64 b.f) ∧ w'.cell? ⟨(w.heap.size + 1), 1, none⟩ = some (.int .i64 b.t) ∧ w'.cell? ⟨(w.heap.size + 1), 2, none⟩ = some (.int .i64 b.d)) ∧ (w'.cell? ⟨w4.heap.size, 0, none⟩ = some (.int .i64 x.f) ∧ w'.cell? ⟨w4.heap.size, 1, none⟩ = some (.int .i64 x.t) ∧ w'.cell? ⟨w4.heap.size, 2, none⟩ = some (.int .i64 x.d)) ∧ (w'.cell? ⟨w6.heap.size, 0, none⟩ = some (.int .i64 x.f) ∧ w'.cell? ⟨w6.heap.size, 1, none⟩ = some (.int .i64 x.t) ∧ w'.cell? ⟨w6.heap.size, 2, none⟩ = some (.int .i64 x.d)) ∧ HasLen w' ∧ Below w.heap.size w w' ∧ w.heap.size < w'.heap.size ∧ (w.heap.size + 1) < w'.heap.size ∧ w4.heap.size < w'.heap.size ∧ w6.heap.size < w'.heap.size ∧ w.heap.size ≤ w'.heap.size) (first | exact s4_drew hS | exact s4_bw (by assumption) (by assumption)) (first
      | (go_at_call 41; (with_reducible refine (K3.out _).mono ?_); rintro e w8 ⟨v8, rfl, hv8, hb8⟩; have hi6 := hv8.intsAt HMa.out; clear hv8)
      | (go_at_call 41; (with_reducible refine (K4.out _).mono ?_); rintro e w9 ⟨v9, rfl, hv9, hb8⟩; have hi7 := hv9.intsAt HMb.out; have hi8 := IntsAt.below hi6 hb8; clear hv9 hi6)
      | (go_at_call 40; refine (K5.out _ _ _ hi8 hi7).mono ?_; rintro e w2 ⟨rfl, hb8⟩; clear hi8 hi7))
    rename_i hS'
    clear K5 hS
  rotate_left
  rw [decide_eq_false hd] at k5
  have hxy := per_ne (show ¬ x = y by rw [← HX.out, ← HY.out]; exact canon_ne hd)
  have K5 := Lib.hid k5
  clear k5 hd hio
  rcases hxy with h1 | ⟨h1, h2⟩ | ⟨h1, h2, h3⟩
  focus
    go_region_held3 (fun w' => (w'.cell? ⟨w.heap.size, 0, none⟩ = some (.int .i64 a.f) ∧ w'.cell? ⟨w.heap.size, 1, none⟩ = some (.int .i64 a.t) ∧ w'.cell? ⟨w.heap.size, 2, none⟩ = some (.int .i64 a.d)) ∧ (w'.cell? ⟨(w.heap.size + 1), 0, none⟩ = some (.int .i64 b.f) ∧ w'.cell? ⟨(w.heap.size + 1), 1, none⟩ = some (.int .i64 b.t) ∧ w'.cell? ⟨(w.heap.size + 1), 2, none⟩ = some (.int .i64 b.d)) ∧ (w'.cell? ⟨w4.heap.size, 0, none⟩ = some (.int .i64 x.f) ∧ w'.cell? ⟨w4.heap.size, 1, none⟩ = some (.int .i64 x.t) ∧ w'.cell? ⟨w4.heap.size, 2, none⟩ = some (.int .i64 x.d)) ∧ (w'.cell? ⟨w6.heap.size, 0, none⟩ = some (.int .i64 y.f) ∧ w'.cell? ⟨w6.heap.size, 1, none⟩ = some (.int .i64 y.t) ∧ w'.cell? ⟨w6.heap.size, 2, none⟩ = some (.int .i64 y.d)) ∧ HasLen w' ∧ Below w.heap.size w w' ∧ w.heap.size < w'.heap.size ∧ (w.heap.size + 1) < w'.heap.size ∧ w4.heap.size < w'.heap.size ∧ w6.heap.size < w'.heap.size ∧ w.heap.size ≤ w'.heap.size) (first | exact s4_drew hS | exact s4_bw (by assumption) (by assumption)) (first
      | (go_at_call 41; (with_reducible refine (K3.out _).mono ?_); rintro e w8 ⟨v8, rfl, hv8, hb8⟩; have hi6 := hv8.intsAt HMa.out; clear hv8)
      | (go_at_call 41; (with_reducible refine (K4.out _).mono ?_); rintro e w9 ⟨v9, rfl, hv9, hb8⟩; have hi7 := hv9.intsAt HMb.out; have hi8 := IntsAt.below hi6 hb8; clear hv9 hi6)
      | (go_at_call 40; refine (K5.out _ _ _ hi8 hi7).mono ?_; rintro e w2 ⟨rfl, hb8⟩; clear hi8 hi7))
    rename_i hS'
    clear K5 hS
  rotate_left
  focus
    go_region_held3 (fun w' => (w'.cell? ⟨w.heap.size, 0, none⟩ = some (.int .i64 a.f) ∧ w'.cell? ⟨w.heap.size, 1, none⟩ = some (.int .i64 a.t) ∧ w'.cell? ⟨w.heap.size, 2, none⟩ = some (.int .i64 a.d)) ∧ (w'.cell? ⟨(w.heap.size + 1), 0, none⟩ = some (.int .i64 b.f) ∧ w'.cell? ⟨(w.heap.size + 1), 1, none⟩ = some (.int .i64 b.t) ∧ w'.cell? ⟨(w.heap.size + 1), 2, none⟩ = some (.int .i64 b.d)) ∧ (w'.cell? ⟨w4.heap.size, 0, none⟩ = some (.int .i64 x.f) ∧ w'.cell? ⟨w4.heap.size, 1, none⟩ = some (.int .i64 x.t) ∧ w'.cell? ⟨w4.heap.size, 2, none⟩ = some (.int .i64 x.d)) ∧ (w'.cell? ⟨w6.heap.size, 0, none⟩ = some (.int .i64 y.f) ∧ w'.cell? ⟨w6.heap.size, 1, none⟩ = some (.int .i64 y.t) ∧ w'.cell? ⟨w6.heap.size, 2, none⟩ = some (.int .i64 y.d)) ∧ HasLen w' ∧ Below w.heap.size w w' ∧ w.heap.size < w'.heap.size ∧ (w.heap.size + 1) < w'.heap.size ∧ w4.heap.size < w'.heap.size ∧ w6.heap.size < w'.heap.size ∧ w.heap.size ≤ w'.heap.size) (first | exact s4_drew hS | exact s4_bw (by assumption) (by assumption)) (first
      | (go_at_call 41; (with_reducible refine (K3.out _).mono ?_); rintro e w8 ⟨v8, rfl, hv8, hb8⟩; have hi6 := hv8.intsAt HMa.out; clear hv8)
      | (go_at_call 41; (with_reducible refine (K4.out _).mono ?_); rintro e w9 ⟨v9, rfl, hv9, hb8⟩; have hi7 := hv9.intsAt HMb.out; have hi8 := IntsAt.below hi6 hb8; clear hv9 hi6)
      | (go_at_call 40; refine (K5.out _ _ _ hi8 hi7).mono ?_; rintro e w2 ⟨rfl, hb8⟩; clear hi8 hi7))
    rename_i hS'
    clear K5 hS
  rotate_left
  focus
    go_region_held3 (fun w' => (w'.cell? ⟨w.heap.size, 0, none⟩ = some (.int .i64 a.f) ∧ w'.cell? ⟨w.heap.size, 1, none⟩ = some (.int .i64 a.t) ∧ w'.cell? ⟨w.heap.size, 2, none⟩ = some (.int .i64 a.d)) ∧ (w'.cell? ⟨(w.heap.size + 1), 0, none⟩ = some (.int .i64 b.f) ∧ w'.cell? ⟨(w.heap.size + 1), 1, none⟩ = some (.int .i64 b.t) ∧ w'.cell? ⟨(w.heap.size + 1), 2, none⟩ = some (.int .i64 b.d)) ∧ (w'.cell? ⟨w4.heap.size, 0, none⟩ = some (.int .i64 x.f) ∧ w'.cell? ⟨w4.heap.size, 1, none⟩ = some (.int .i64 x.t) ∧ w'.cell? ⟨w4.heap.size, 2, none⟩ = some (.int .i64 x.d)) ∧ (w'.cell? ⟨w6.heap.size, 0, none⟩ = some (.int .i64 y.f) ∧ w'.cell? ⟨w6.heap.size, 1, none⟩ = some (.int .i64 y.t) ∧ w'.cell? ⟨w6.heap.size, 2, none⟩ = some (.int .i64 y.d)) ∧ HasLen w' ∧ Below w.heap.size w w' ∧ w.heap.size < w'.heap.size ∧ (w.heap.size + 1) < w'.heap.size ∧ w4.heap.size < w'.heap.size ∧ w6.heap.size < w'.heap.size ∧ w.heap.size ≤ w'.heap.size) (first | exact s4_drew hS | exact s4_bw (by assumption) (by assumption)) (first
      | (go_at_call 41; (with_reducible refine (K3.out _).mono ?_); rintro e w8 ⟨v8, rfl, hv8, hb8⟩; have hi6 := hv8.intsAt HMa.out; clear hv8)
      | (go_at_call 41; (with_reducible refine (K4.out _).mono ?_); rintro e w9 ⟨v9, rfl, hv9, hb8⟩; have hi7 := hv9.intsAt HMb.out; have hi8 := IntsAt.below hi6 hb8; clear hv9 hi6)
      | (go_at_call 40; refine (K5.out _ _ _ hi8 hi7).mono ?_; rintro e w2 ⟨rfl, hb8⟩; clear hi8 hi7))
    rename_i hS'
    clear K5 hS
  rotate_left
  all_goals
    obtain ⟨⟨a0, a1, a2⟩, ⟨b0, b1, b2⟩, ⟨x0, x1, x2⟩, -, hl8, hB8, hs0, hs1, hs2, -, hz8⟩ := hS'
    have hA : PerAt w2 w.heap.size a := ⟨a0, a1, a2⟩
    have hBq : PerAt w2 (w.heap.size + 1) b := ⟨b0, b1, b2⟩
    have hX : PerAt w2 w4.heap.size x := ⟨x0, x1, x2⟩
    have hBe := hB8
    go_wp2_with fail
    refine (K6.out _).mono ?_
    rintro e w10 ⟨rfl, hb10⟩
    have hq10 : Below w2.heap.size w2 (w10.alloc (.cells #[.int .i64 v.f, .int .i64 v.t, .int .i64 v.d] 37)) := hb10.alloc hb10.size _
    have hr10 : (w10.alloc (.cells #[.int .i64 v.f, .int .i64 v.t, .int .i64 v.d] 37)).heap.size = w10.heap.size + 1 := by simp
    have hv10 := hb10.size
    have hA := PerAt.below hA hq10 (by omega)
    have hBq := PerAt.below hBq hq10 (by omega)
    have hX := PerAt.below hX hq10 (by omega)
    have hN10 : PerAt (w10.alloc (.cells #[.int .i64 v.f, .int .i64 v.t, .int .i64 v.d] 37)) w10.heap.size v := perAt_new _ _ _
    have hBe := hBe.trans (hq10.mono (by omega))
    clear a0 a1 a2 b0 b1 b2 x0 x1 x2
    obtain ⟨a0, a1, a2⟩ := hA
    obtain ⟨b0, b1, b2⟩ := hBq
    obtain ⟨x0, x1, x2⟩ := hX
    clear hb10 hq10
    go_wp2_with fail
    generalize w10.alloc (.cells #[.int .i64 v.f, .int .i64 v.t, .int .i64 v.d] 37) = w11 at *
    have hA : PerAt w11 w.heap.size a := ⟨a0, a1, a2⟩
    have hBq : PerAt w11 (w.heap.size + 1) b := ⟨b0, b1, b2⟩
    have hX : PerAt w11 w4.heap.size x := ⟨x0, x1, x2⟩
    refine (K7.out _).mono ?_
    rintro e w12 ⟨rfl, hb12⟩
    have hq12 : Below w11.heap.size w11 (w12.alloc (.cells #[.int .i64 v.f, .int .i64 v.t, .int .i64 v.d] 37)) := hb12.alloc hb12.size _
    have hr12 : (w12.alloc (.cells #[.int .i64 v.f, .int .i64 v.t, .int .i64 v.d] 37)).heap.size = w12.heap.size + 1 := by simp
    have hv12 := hb12.size
    have hA := PerAt.below hA hq12 (by omega)
    have hBq := PerAt.below hBq hq12 (by omega)
    have hX := PerAt.below hX hq12 (by omega)
    have hN10 := PerAt.below hN10 hq12 (by omega)
    have hN12 : PerAt (w12.alloc (.cells #[.int .i64 v.f, .int .i64 v.t, .int .i64 v.d] 37)) w12.heap.size v := perAt_new _ _ _
    have hBe := hBe.trans (hq12.mono (by omega))
    clear a0 a1 a2 b0 b1 b2 x0 x1 x2
    obtain ⟨a0, a1, a2⟩ := hA
    obtain ⟨b0, b1, b2⟩ := hBq
    obtain ⟨x0, x1, x2⟩ := hX
    clear hb12 hq12
    go_wp2_with fail
    generalize w12.alloc (.cells #[.int .i64 v.f, .int .i64 v.t, .int .i64 v.d] 37) = w13 at *
    have hA : PerAt w13 w.heap.size a := ⟨a0, a1, a2⟩
    have hBq : PerAt w13 (w.heap.size + 1) b := ⟨b0, b1, b2⟩
    have hX : PerAt w13 w4.heap.size x := ⟨x0, x1, x2⟩
    refine (K8.out _).mono ?_
    rintro e w14 ⟨rfl, hb14⟩
    have hq14 : Below w13.heap.size w13 (w14.alloc (.cells #[.int .i64 x.f, .int .i64 x.t, .int .i64 x.d] 37)) := hb14.alloc hb14.size _
    have hr14 : (w14.alloc (.cells #[.int .i64 x.f, .int .i64 x.t, .int .i64 x.d] 37)).heap.size = w14.heap.size + 1 := by simp
    have hv14 := hb14.size
    have hA := PerAt.below hA hq14 (by omega)
    have hBq := PerAt.below hBq hq14 (by omega)
    have hX := PerAt.below hX hq14 (by omega)
    have hN10 := PerAt.below hN10 hq14 (by omega)
    have hN12 := PerAt.below hN12 hq14 (by omega)
    have hN14 : PerAt (w14.alloc (.cells #[.int .i64 x.f, .int .i64 x.t, .int .i64 x.d] 37)) w14.heap.size x := perAt_new _ _ _
    have hBe := hBe.trans (hq14.mono (by omega))
    clear a0 a1 a2 b0 b1 b2 x0 x1 x2
    obtain ⟨a0, a1, a2⟩ := hA
    obtain ⟨b0, b1, b2⟩ := hBq
    obtain ⟨x0, x1, x2⟩ := hX
    clear hb14 hq14
    go_wp2_with fail
    generalize w14.alloc (.cells #[.int .i64 x.f, .int .i64 x.t, .int .i64 x.d] 37) = w15 at *
    have hA : PerAt w15 w.heap.size a := ⟨a0, a1, a2⟩
    have hBq : PerAt w15 (w.heap.size + 1) b := ⟨b0, b1, b2⟩
    have hX : PerAt w15 w4.heap.size x := ⟨x0, x1, x2⟩
    refine (K9.out _).mono ?_
    rintro e w16 ⟨rfl, hb16⟩
    have hq16 : Below w15.heap.size w15 (w16.alloc (.cells #[.int .i64 x.f, .int .i64 x.t, .int .i64 x.d] 37)) := hb16.alloc hb16.size _
    have hr16 : (w16.alloc (.cells #[.int .i64 x.f, .int .i64 x.t, .int .i64 x.d] 37)).heap.size = w16.heap.size + 1 := by simp
    have hv16 := hb16.size
    have hA := PerAt.below hA hq16 (by omega)
    have hBq := PerAt.below hBq hq16 (by omega)
    have hX := PerAt.below hX hq16 (by omega)
    have hN10 := PerAt.below hN10 hq16 (by omega)
    have hN12 := PerAt.below hN12 hq16 (by omega)
    have hN14 := PerAt.below hN14 hq16 (by omega)
    have hN16 : PerAt (w16.alloc (.cells #[.int .i64 x.f, .int .i64 x.t, .int .i64 x.d] 37)) w16.heap.size x := perAt_new _ _ _
    have hBe := hBe.trans (hq16.mono (by omega))
    clear a0 a1 a2 b0 b1 b2 x0 x1 x2
    obtain ⟨a0, a1, a2⟩ := hA
    obtain ⟨b0, b1, b2⟩ := hBq
    obtain ⟨x0, x1, x2⟩ := hX
    obtain ⟨c10, d10, e10⟩ := hN10
    obtain ⟨c12, d12, e12⟩ := hN12
    obtain ⟨c14, d14, e14⟩ := hN14
    obtain ⟨c16, d16, e16⟩ := hN16
    have hlE := hl.below hBe
    clear hb16 hq16
    go_wp2_with fail
    refine (pawake_any _ hlE).mono ?_
    rintro e w20 ⟨rfl, hb20⟩
    go_wp2_with fail
    go_ret
    exact ⟨rfl, hBe.trans (hb20.mono hBe.size)⟩
end Go.Proofs.YtfmdnmkojeolkaaDoor
