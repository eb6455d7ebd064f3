/-
  The walks of Day, of layer 3 and of its reference: the number of a date, or the error.
-/
import Derived.Test.YtfmdnmkojeolkaaDoorCalWalks
namespace Go.Proofs.YtfmdnmkojeolkaaDoor
open Go.RowKit

set_option maxHeartbeats 1000000 in
theorem Day_no (y m d : Int) (w : World) (hl : HasLen w) (h : Cal.vld y m d = false) :
    Calls Tryd.prog 15 #[.int .i64 y, .int .i64 m, .int .i64 d] w fun e w' => e = .returned (.tuple #[.int .i64 0, .int .i64 12]) ∧ w = w' := by
  by_cases h1 : y < 2000
  · go_enter Tryd.func15, Tryd.ntmps15
    go_wp2
    go_ret2
    exact ⟨rfl, rfl⟩
  by_cases h2 : 2099 < y
  · go_enter Tryd.func15, Tryd.ntmps15
    go_wp2
    go_ret2
    exact ⟨rfl, rfl⟩
  by_cases h3 : m < 1
  · go_enter Tryd.func15, Tryd.ntmps15
    go_wp2
    go_ret2
    exact ⟨rfl, rfl⟩
  by_cases h4 : 12 < m
  · go_enter Tryd.func15, Tryd.ntmps15
    go_wp2
    go_ret2
    exact ⟨rfl, rfl⟩
  by_cases h5 : d < 1
  · go_enter Tryd.func15, Tryd.ntmps15
    go_wp2
    go_ret2
    exact ⟨rfl, rfl⟩
  by_cases h6 : Cal.dim y m < d
  · clear h
    go_enter Tryd.func15, Tryd.ntmps15
    go_wp2_with (go_at_call 53; refine (length_any _ _ _ hl (by omega) (by omega) (by omega)).mono ?_; rintro e w' ⟨rfl, rfl⟩)
    go_ret2
    exact ⟨rfl, rfl⟩
  · exfalso
    have := Cal.vld_iff.2 ⟨show 2000 ≤ y by omega, show y ≤ 2099 by omega, show 1 ≤ m by omega, show m ≤ 12 by omega, show 1 ≤ d by omega, show d ≤ Cal.dim y m by omega⟩
    rw [h] at this; cases this

set_option maxHeartbeats 1000000 in
theorem Day_yes (y m d : Int) (w : World) (hl : HasLen w) (h : Cal.vld y m d = true) :
    Calls Tryd.prog 15 #[.int .i64 y, .int .i64 m, .int .i64 d] w fun e w' => e = .returned (.tuple #[.int .i64 (Cal.num y m d), .int .i64 0]) ∧ w = w' := by
  obtain ⟨a, b, c, e', f, g⟩ := Cal.vld_iff.1 h
  clear h
  have hd := Cal.dim_bd y m
  have hf := Cal.fst_bd y a (by omega)
  go_enter Tryd.func15, Tryd.ntmps15
  go_wp2_with (first | (go_at_call 53; refine (length_any _ _ _ hl (by omega) (by omega) (by omega)).mono ?_; rintro e w' ⟨rfl, rfl⟩) | (go_at_call 54; refine (first_any _ _ (by omega) (by omega)).mono ?_; rintro e w' ⟨rfl, rfl⟩))
  go_loop [8, 42] (fun s i => ∃ k : Nat, (k : Int) ≤ m - 1 ∧ i = .int .i64 k ∧ s = .int .i64 (Cal.fst y + d - 1 + Cal.cum y k)) (fun _ i => (m - 1).toNat - (intOf i).toNat)
  case atStart => exact ⟨0, by omega, rfl, by simp [Cal.cum]⟩
  case round =>
    obtain ⟨k, hk, rfl, rfl⟩ := hrel
    have hb := Cal.cum_bd y k
    have hd' := Cal.dim_bd y ((k : Int) + 1)
    by_cases hlt : (k : Int) < m - 1
    · go_wp2_with (go_at_call 53; refine (length_any _ _ _ hl (by omega) (by omega) (by omega)).mono ?_; rintro e w' ⟨rfl, rfl⟩)
      go_round
      case rel => exact ⟨k + 1, by omega, by go_num, by rw [Cal.cum_succ]; go_num⟩
      case measure => simp [intOf]; omega
    · go_wp2
      go_ret2
      exact ⟨ret_int2 (by unfold Cal.num; rw [show (m - 1).toNat = k by omega]; omega) rfl, rfl⟩

set_option maxHeartbeats 1000000 in
theorem rDay_no (y m d : Int) (w : World) (h : Cal.vld y m d = false) :
    Calls Tryd.prog 16 #[.int .i64 y, .int .i64 m, .int .i64 d] w fun e w' => e = .returned (.tuple #[.int .i64 0, .int .i64 12]) ∧ w = w' := by
  by_cases h1 : y < 2000
  · go_enter Tryd.func16, Tryd.ntmps16
    go_wp2
    go_ret2
    exact ⟨rfl, rfl⟩
  by_cases h2 : 2099 < y
  · go_enter Tryd.func16, Tryd.ntmps16
    go_wp2
    go_ret2
    exact ⟨rfl, rfl⟩
  by_cases h3 : m < 1
  · go_enter Tryd.func16, Tryd.ntmps16
    go_wp2
    go_ret2
    exact ⟨rfl, rfl⟩
  by_cases h4 : 12 < m
  · go_enter Tryd.func16, Tryd.ntmps16
    go_wp2
    go_ret2
    exact ⟨rfl, rfl⟩
  by_cases h5 : d < 1
  · go_enter Tryd.func16, Tryd.ntmps16
    go_wp2
    go_ret2
    exact ⟨rfl, rfl⟩
  by_cases h6 : Cal.dim y m < d
  · clear h
    go_enter Tryd.func16, Tryd.ntmps16
    go_wp2_with (go_at_call 55; refine (Length_any _ _ _ (by omega)).mono ?_; rintro e w' ⟨rfl, rfl⟩)
    go_ret2
    exact ⟨rfl, rfl⟩
  · exfalso
    have := Cal.vld_iff.2 ⟨show 2000 ≤ y by omega, show y ≤ 2099 by omega, show 1 ≤ m by omega, show m ≤ 12 by omega, show 1 ≤ d by omega, show d ≤ Cal.dim y m by omega⟩
    rw [h] at this; cases this

set_option maxHeartbeats 1000000 in
theorem rDay_yes (y m d : Int) (w : World) (h : Cal.vld y m d = true) :
    Calls Tryd.prog 16 #[.int .i64 y, .int .i64 m, .int .i64 d] w fun e w' => e = .returned (.tuple #[.int .i64 (Cal.num y m d), .int .i64 0]) ∧ w = w' := by
  obtain ⟨a, b, c, e', f, g⟩ := Cal.vld_iff.1 h
  clear h
  have hd := Cal.dim_bd y m
  have hf := Cal.fst_bd y a (by omega)
  go_enter Tryd.func16, Tryd.ntmps16
  go_wp2_with (go_at_call 55; refine (Length_any _ _ _ (by omega)).mono ?_; rintro e w' ⟨rfl, rfl⟩)
  go_loop [8, 9] (fun s i => ∃ k : Int, 2000 ≤ k ∧ k ≤ y ∧ i = .int .i64 k ∧ s = .int .i64 (d - 1 + Cal.fst k)) (fun _ i => (y - intOf i).toNat)
  case atStart => exact ⟨2000, by omega, a, rfl, by rw [Cal.fst_2000]; go_num⟩
  case round =>
    obtain ⟨k, hk, hk', rfl, rfl⟩ := hrel
    have hfk := Cal.fst_bd k hk (by omega)
    by_cases hlt : k < y
    · go_wp2
      go_loop [8, 10] (fun s i => ∃ j : Nat, j ≤ 12 ∧ i = .int .i64 ((j : Int) + 1) ∧ s = .int .i64 (d - 1 + Cal.fst k + Cal.cum k j)) (fun _ i => (13 - intOf i).toNat)
      case atStart => exact ⟨0, by omega, rfl, by simp [Cal.cum]⟩
      case round =>
        obtain ⟨j, hj, rfl, rfl⟩ := hrel
        have hb := Cal.cum_bd k j
        have hd' := Cal.dim_bd k ((j : Int) + 1)
        by_cases hjlt : j < 12
        · go_wp2_with (go_at_call 55; refine (Length_any _ _ _ (by omega)).mono ?_; rintro e w' ⟨rfl, rfl⟩)
          go_round
          case rel => exact ⟨j + 1, by omega, by go_num, by rw [Cal.cum_succ]; go_num⟩
          case measure => simp [intOf]; omega
        · obtain rfl : 12 = j := by omega
          have hs := Cal.fst_succ k
          have hc := Cal.cum_12 k
          have E := Lib.hid (show d - 1 + Cal.fst k + Cal.cum k 12 = d - 1 + Cal.fst (k + 1) by omega)
          clear hs hc
          go_wp2
          go_round
          case rel => exact ⟨k + 1, by omega, by omega, by go_num, by rw [← E.out]⟩
          case measure => simp [intOf]; omega
    · obtain rfl : k = y := by omega
      go_wp2
      go_loop [8, 11] (fun s i => ∃ j : Nat, (j : Int) ≤ m - 1 ∧ i = .int .i64 ((j : Int) + 1) ∧ s = .int .i64 (d - 1 + Cal.fst k + Cal.cum k j)) (fun _ i => (m - intOf i).toNat)
      case atStart => exact ⟨0, by omega, rfl, by simp [Cal.cum]⟩
      case round =>
        obtain ⟨j, hj, rfl, rfl⟩ := hrel
        have hb := Cal.cum_bd k j
        have hd' := Cal.dim_bd k ((j : Int) + 1)
        by_cases hjlt : (j : Int) < m - 1
        · go_wp2_with (go_at_call 55; refine (Length_any _ _ _ (by omega)).mono ?_; rintro e w' ⟨rfl, rfl⟩)
          go_round
          case rel => exact ⟨j + 1, by omega, by go_num, by rw [Cal.cum_succ]; go_num⟩
          case measure => simp [intOf]; omega
        · go_wp2
          go_ret2
          exact ⟨ret_int2 (by unfold Cal.num; rw [show (m - 1).toNat = j by omega]; omega) rfl, rfl⟩

end Go.Proofs.YtfmdnmkojeolkaaDoor
