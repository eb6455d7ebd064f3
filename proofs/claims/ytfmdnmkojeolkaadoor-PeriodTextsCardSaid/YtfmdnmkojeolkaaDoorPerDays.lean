/-
  The law PeriodDays, walked: Check, Has, Days and Count follow the set of a period.
-/
import Derived.Test.YtfmdnmkojeolkaaDoorRefDays
import Derived.Test.YtfmdnmkojeolkaaDoorPerAwake
namespace Go.Proofs.YtfmdnmkojeolkaaDoor
open Go.RowKit Go.Shelf

theorem same_self (l : List Int) (a b : Value) (w : World) (ha : IntsAt w a l) (hb : IntsAt w b l) :
    Calls Tryd.prog 40 #[a, b] w fun e w' => e = .returned (.bool true) ∧ Below w.heap.size w w' := by
  have h := same_any l l a b w ha hb
  rw [decide_eq_true rfl] at h
  exact h
/-- What holds of a world while a period lies in the block that the call made first. -/
theorem s1_drew {w w1 : World} {p : Per.P} (h : (w1.cell? ⟨w.heap.size, 0, none⟩ = some (.int .i64 p.f) ∧ w1.cell? ⟨w.heap.size, 1, none⟩ = some (.int .i64 p.t) ∧ w1.cell? ⟨w.heap.size, 2, none⟩ = some (.int .i64 p.d)) ∧ HasLen w1 ∧ Below w.heap.size w w1 ∧ w.heap.size < w1.heap.size) :
    (w1.drew.cell? ⟨w.heap.size, 0, none⟩ = some (.int .i64 p.f) ∧ w1.drew.cell? ⟨w.heap.size, 1, none⟩ = some (.int .i64 p.t) ∧ w1.drew.cell? ⟨w.heap.size, 2, none⟩ = some (.int .i64 p.d)) ∧ HasLen w1.drew ∧ Below w.heap.size w w1.drew ∧ w.heap.size < w1.drew.heap.size :=
  ⟨h.1, h.2.1, h.2.2.1.drew, h.2.2.2⟩
theorem s1_bw {w w1 w2 : World} {p : Per.P} (h : (w1.cell? ⟨w.heap.size, 0, none⟩ = some (.int .i64 p.f) ∧ w1.cell? ⟨w.heap.size, 1, none⟩ = some (.int .i64 p.t) ∧ w1.cell? ⟨w.heap.size, 2, none⟩ = some (.int .i64 p.d)) ∧ HasLen w1 ∧ Below w.heap.size w w1 ∧ w.heap.size < w1.heap.size) (hb : Below w1.heap.size w1 w2) :
    (w2.cell? ⟨w.heap.size, 0, none⟩ = some (.int .i64 p.f) ∧ w2.cell? ⟨w.heap.size, 1, none⟩ = some (.int .i64 p.t) ∧ w2.cell? ⟨w.heap.size, 2, none⟩ = some (.int .i64 p.d)) ∧ HasLen w2 ∧ Below w.heap.size w w2 ∧ w.heap.size < w2.heap.size := by
  obtain ⟨⟨a0, a1, a2⟩, hl, hB, hs⟩ := h
  exact ⟨⟨(hb.cell (p := ⟨w.heap.size, 0, none⟩) hs).trans a0, (hb.cell (p := ⟨w.heap.size, 1, none⟩) hs).trans a1, (hb.cell (p := ⟨w.heap.size, 2, none⟩) hs).trans a2⟩, hl.below hb, hB.trans (hb.mono (by omega)), Nat.lt_of_lt_of_le hs hb.size⟩
theorem s1_len {W : World} {A C : Prop} (h : A ∧ HasLen W ∧ C) : HasLen W := h.2.1
theorem s1_below {w W : World} {A C D : Prop} (h : A ∧ C ∧ Below w.heap.size w W ∧ D) : Below w.heap.size w W := h.2.2.1

set_option maxHeartbeats 1000000 in
theorem days_any (p : Per.P) (day : Int) (w : World) (hl : HasLen w) :
    Calls Tryd.prog 13 #[pv p, .int .i64 day] w fun e w' => e = .returned (.bool true) ∧ Below w.heap.size w w' := by
  have hP := Box3.new w 37 (.int .i64 p.f) (.int .i64 p.t) (.int .i64 p.d)
  have hB0 := (Below.refl w.heap.size w).alloc (Nat.le_refl _) (.cells #[.int .i64 p.f, .int .i64 p.t, .int .i64 p.d] 37)
  have hz : (w.alloc (.cells #[.int .i64 p.f, .int .i64 p.t, .int .i64 p.d] 37)).heap.size = w.heap.size + 1 := by simp
  have hlen := Per.days_len p
  have hmax : (Per.days p).length ≤ maxLen := by unfold maxLen; omega
  have k1 := fun W => Check_any p W
  have k2 := fun W => rCheck_any p W
  have k3 := fun W => Has_any p day W
  have k4 := fun W => rHas_any p day W
  have k5 := fun W => Days_any p W
  have k6 := fun W => rDays_any p W
  have k7 := fun W => Count_any p W
  have k8 := fun W => rCount_any p W
  generalize Per.chk p = c at *
  generalize Per.has p day = b at *
  have k9 := same_self (Per.days p)
  generalize Per.days p = l at *
  have K1 := Lib.hid k1
  have K2 := Lib.hid k2
  have K3 := Lib.hid k3
  have K4 := Lib.hid k4
  have K5 := Lib.hid k5
  have K6 := Lib.hid k6
  have K7 := Lib.hid k7
  have K8 := Lib.hid k8
  have K9 := Lib.hid k9
  have HM := Lib.hid hmax
  have HL := Lib.hid hl
  clear k1 k2 k3 k4 k5 k6 k7 k8 k9 hmax
  go_enter Tryd.func13, Tryd.ntmps13
  go_wp2_with fail
  generalize w.alloc (.cells #[.int .i64 p.f, .int .i64 p.t, .int .i64 p.d] 37) = w1 at *
  have hS : (w1.cell? ⟨w.heap.size, 0, none⟩ = some (.int .i64 p.f) ∧ w1.cell? ⟨w.heap.size, 1, none⟩ = some (.int .i64 p.t) ∧ w1.cell? ⟨w.heap.size, 2, none⟩ = some (.int .i64 p.d)) ∧ HasLen w1 ∧ Below w.heap.size w w1 ∧ w.heap.size < w1.heap.size := ⟨⟨hP.c0, hP.c1, hP.c2⟩, hl.below hB0, hB0, by omega⟩
  clear hP hB0 hz hl
  go_region_held3 (fun w' => (w'.cell? ⟨w.heap.size, 0, none⟩ = some (.int .i64 p.f) ∧ w'.cell? ⟨w.heap.size, 1, none⟩ = some (.int .i64 p.t) ∧ w'.cell? ⟨w.heap.size, 2, none⟩ = some (.int .i64 p.d)) ∧ HasLen w' ∧ Below w.heap.size w w' ∧ w.heap.size < w'.heap.size) (first | exact s1_drew hS | exact s1_bw (by assumption) (by assumption)) (first
    | (go_at_call 46; refine (K1.out _).mono ?_; rintro e w2 ⟨rfl, hb2⟩)
    | (go_at_call 44; refine (K2.out _).mono ?_; rintro e w2 ⟨rfl, hb2⟩)
    | (go_at_call 42; refine (K3.out _).mono ?_; rintro e w2 ⟨rfl, hb2⟩)
    | (go_at_call 43; refine (K4.out _).mono ?_; rintro e w2 ⟨rfl, hb2⟩)
    | (go_at_call 47; refine (K5.out _).mono ?_; rintro e w6 ⟨v6, rfl, hv6, hb2⟩; have hi6 := hv6.intsAt HM.out; clear hv6)
    | (go_at_call 41; refine (K6.out _).mono ?_; rintro e w7 ⟨v7, rfl, hv7, hb2⟩; have hi7 := hv7.intsAt HM.out; have hi8 := IntsAt.below hi6 hb2; clear hv7 hi6)
    | (go_at_call 40; refine (K9.out _ _ _ hi8 hi7).mono ?_; rintro e w2 ⟨rfl, hb2⟩; clear hi8 hi7)
    | (go_at_call 45; refine (K7.out _).mono ?_; rintro e w2 ⟨rfl, hb2⟩)
    | (go_at_call 48; refine (K8.out _).mono ?_; rintro e w2 ⟨rfl, hb2⟩)
    | (go_at_call 39; refine (pawake_any _ (s1_len (by assumption))).mono ?_; rintro e w2 ⟨rfl, hb2⟩))
  rename_i hS'
  have hSb := s1_below hS'
  go_wp2_with fail
  go_ret
  exact ⟨rfl, hSb⟩
end Go.Proofs.YtfmdnmkojeolkaaDoor
