/-
  The walks of layer 4 (period) and of its reference: the functions on one period and one day.
-/
import Derived.Test.YtfmdnmkojeolkaaDoorCalPrint
import Derived.Test.YtfmdnmkojeolkaaDoorBits
import Derived.Deep.RegionWith
import Derived.Deep.RegionHeld3
import Derived.Deep.DeepCutAuto
namespace Go.Proofs.YtfmdnmkojeolkaaDoor
open Go.RowKit

/-- A period as a value. -/
abbrev pv (p : Per.P) : Value := .agg #[.int .i64 p.f, .int .i64 p.t, .int .i64 p.d]

set_option maxHeartbeats 400000 in
theorem Check_any (p : Per.P) (w : World) :
    Calls Tryd.prog 46 #[pv p] w fun e w' => e = .returned (.int .i64 (Per.chk p)) ∧ Below w.heap.size w w' := by
  obtain ⟨f, t, d⟩ := p
  go_enter Tryd.func46, Tryd.ntmps46
  go_wp2_with fail
  all_goals
    go_ret
    refine ⟨ret_int ?_, ((Below.refl _ _).alloc (Nat.le_refl _) _)⟩
    unfold Per.chk
    dsimp only
    repeat' split
    all_goals first | rfl | omega
set_option maxHeartbeats 400000 in
theorem rCheck_any (p : Per.P) (w : World) :
    Calls Tryd.prog 44 #[pv p] w fun e w' => e = .returned (.int .i64 (Per.chk p)) ∧ Below w.heap.size w w' := by
  obtain ⟨f, t, d⟩ := p
  go_enter Tryd.func44, Tryd.ntmps44
  go_wp2_with fail
  all_goals
    go_ret
    refine ⟨ret_int ?_, ((Below.refl _ _).alloc (Nat.le_refl _) _)⟩
    unfold Per.chk
    dsimp only
    repeat' split
    all_goals first | rfl | omega

theorem ret_bool {a b : Bool} (h : a = b) : Ending.returned (.bool a) = .returned (.bool b) := by rw [h]
theorem div_bit_bd {d day : Int} (h0 : 0 ≤ d) (h1 : d ≤ 127) : 0 ≤ d / 2 ^ (Cal.wd day).toNat ∧ d / 2 ^ (Cal.wd day).toNat ≤ 127 := by
  have h := Per.bit_bd day
  have hb : Per.bit day = 2 ^ (Cal.wd day).toNat := rfl
  rw [← hb]
  exact ⟨Int.ediv_nonneg h0 (by omega), Int.le_trans (Int.ediv_le_self _ h0) h1⟩
theorem on_any (d day : Int) (w : World) (h0 : 0 ≤ d) (h1 : d ≤ 127) :
    Calls Tryd.prog 65 #[.int .i64 d, .int .i64 day] w fun e w' => e = .returned (.bool (Per.on d day)) ∧ w = w' := by
  have hw := Cal.wd_bd day
  have hq := div_bit_bd (day := day) h0 h1
  have he := i64_and1 (d / 2 ^ (Cal.wd day).toNat) hq.1 (by omega)
  go_enter Tryd.func65, Tryd.ntmps65
  go_wp2_with (go_at_call 20; refine (Weekday_any _ _).mono ?_; rintro e w' ⟨rfl, rfl⟩)
  go_ret
  exact ⟨ret_bool (rfl), rfl⟩

theorem pow_succ2 (k : Nat) : (2 : Int) ^ (k + 1) = 2 * 2 ^ k := by rw [Int.pow_succ]; omega
theorem pow_bd {k : Nat} (h : k ≤ 6) : 1 ≤ (2 : Int) ^ k ∧ (2 : Int) ^ k ≤ 64 := by
  have : k = 0 ∨ k = 1 ∨ k = 2 ∨ k = 3 ∨ k = 4 ∨ k = 5 ∨ k = 6 := by omega
  rcases this with e | e | e | e | e | e | e <;> subst e <;> decide
theorem bit_any (day : Int) (w : World) :
    Calls Tryd.prog 66 #[.int .i64 day] w fun e w' => e = .returned (.int .i64 (Per.bit day)) ∧ w = w' := by
  have hw := Cal.wd_bd day
  go_enter Tryd.func66, Tryd.ntmps66
  go_wp2_with fail
  go_loop [3, 4] (fun n i => ∃ k : Nat, (k : Int) ≤ Cal.wd day ∧ i = .int .i64 k ∧ n = .int .i64 (2 ^ k)) (fun _ i => (Cal.wd day - intOf i).toNat)
  case atStart => exact ⟨0, by omega, rfl, rfl⟩
  case round =>
    obtain ⟨k, hk, rfl, rfl⟩ := hrel
    have hp := pow_bd (show k ≤ 6 by omega)
    by_cases hlt : (k : Int) < Cal.wd day
    · go_wp2_with (go_at_call 21; refine (rWeekday_any _ _).mono ?_; rintro e w' ⟨rfl, rfl⟩)
      go_round
      case rel => exact ⟨k + 1, by omega, by go_num, by rw [pow_succ2]⟩
      case measure => simp [intOf]; omega
    · have E := Lib.hid (show (2 : Int) ^ k = Per.bit day by unfold Per.bit; rw [show (Cal.wd day).toNat = k by omega])
      go_wp2_with (go_at_call 21; refine (rWeekday_any _ _).mono ?_; rintro e w' ⟨rfl, rfl⟩)
      go_ret
      exact ⟨ret_int E.out, rfl⟩

/-- Block Bn holds the period p. -/
def PerAt (W : World) (Bn : Nat) (p : Per.P) : Prop := W.cell? ⟨Bn, 0, none⟩ = some (.int .i64 p.f) ∧ W.cell? ⟨Bn, 1, none⟩ = some (.int .i64 p.t) ∧ W.cell? ⟨Bn, 2, none⟩ = some (.int .i64 p.d)
theorem PerAt.below {W W' : World} {Bn n₀ : Nat} {p : Per.P} (h : PerAt W Bn p) (hb : Below n₀ W W') (hB : Bn < n₀) : PerAt W' Bn p :=
  ⟨(hb.cell (p := ⟨Bn, 0, none⟩) hB).trans h.1, (hb.cell (p := ⟨Bn, 1, none⟩) hB).trans h.2.1, (hb.cell (p := ⟨Bn, 2, none⟩) hB).trans h.2.2⟩
theorem perAt_new (w : World) (p : Per.P) (T : TypeId) : PerAt (w.alloc (.cells #[.int .i64 p.f, .int .i64 p.t, .int .i64 p.d] T)) w.heap.size p :=
  ⟨World.cell?_alloc_mark w _ T (0, 0) 0, World.cell?_alloc_mark w _ T (0, 0) 1, World.cell?_alloc_mark w _ T (0, 0) 2⟩

theorem has_no {p : Per.P} {day : Int} (h : ¬ (Per.chk p = 0 ∧ p.f ≤ day ∧ day ≤ p.t)) : Per.has p day = false := by
  unfold Per.has; rw [decide_eq_false h]; rfl
theorem has_yes {p : Per.P} {day : Int} (h : Per.chk p = 0 ∧ p.f ≤ day ∧ day ≤ p.t) : Per.has p day = Per.on p.d day := by
  unfold Per.has; rw [decide_eq_true h]; rfl

set_option maxHeartbeats 400000 in
theorem Has_any (p : Per.P) (day : Int) (w : World) :
    Calls Tryd.prog 42 #[pv p, .int .i64 day] w fun e w' => e = .returned (.bool (Per.has p day)) ∧ Below w.heap.size w w' := by
  go_enter Tryd.func42, Tryd.ntmps42
  go_wp2_with fail
  refine (Check_any p _).mono ?_
  rintro e w1 ⟨rfl, hb⟩
  obtain ⟨c0, c1, c2⟩ := (perAt_new w p 37).below hb (by simp)
  have hb0 := ((Below.refl w.heap.size w).alloc (Nat.le_refl _) _).trans (hb.mono (by simp))
  clear hb
  by_cases h0 : Per.chk p = 0
  · by_cases h1 : p.f ≤ day
    · by_cases h2 : day ≤ p.t
      · have E := Lib.hid (has_yes ⟨h0, h1, h2⟩)
        have hb := Per.chk_ok.1 h0
        have h0' : (Per.chk p == 0) = true := by simpa using h0
        clear h0
        go_wp2_with (go_at_call 65; refine (on_any _ _ _ (by omega) (by omega)).mono ?_; rintro e w' ⟨rfl, rfl⟩)
        go_ret
        exact ⟨ret_bool E.out.symm, hb0⟩
      · have E := Lib.hid (has_no (fun h => h2 h.2.2))
        have h0' : (Per.chk p == 0) = true := by simpa using h0
        have h2' : decide (day ≤ p.t) = false := by simpa using h2
        clear h0 h2
        go_wp2_with fail
        go_ret
        exact ⟨ret_bool E.out.symm, hb0⟩
    · have E := Lib.hid (has_no (day := day) (fun h => h1 h.2.1))
      have h0' : (Per.chk p == 0) = true := by simpa using h0
      have h1' : decide (p.f ≤ day) = false := by simpa using h1
      clear h0 h1
      go_wp2_with fail
      go_ret
      exact ⟨ret_bool E.out.symm, hb0⟩
  · have E := Lib.hid (has_no (day := day) (fun h => h0 h.1))
    have h0' : (Per.chk p == 0) = false := by simpa using h0
    clear h0
    go_wp2_with fail
    go_ret
    exact ⟨ret_bool E.out.symm, hb0⟩
end Go.Proofs.YtfmdnmkojeolkaaDoor
