/-
  The walks of Date, of layer 3 and of its reference: the date of a number, or zeros.
-/
import Derived.Test.YtfmdnmkojeolkaaDoorCalWalks
namespace Go.Proofs.YtfmdnmkojeolkaaDoor
open Go.RowKit

theorem ret_int3 {k k' k'' : IntKind} {a b a' b' a'' b'' : Int} (h : a = b) (h' : a' = b') (h'' : a'' = b'') : Ending.returned (.tuple #[.int k a, .int k' a', .int k'' a'']) = .returned (.tuple #[.int k b, .int k' b', .int k'' b'']) := by rw [h, h', h'']

theorem Date_no (n : Int) (w : World) (h : ¬ (0 ≤ n ∧ n < 36525)) :
    Calls Tryd.prog 18 #[.int .i64 n] w fun e w' => e = .returned (.tuple #[.int .i64 0, .int .i64 0, .int .i64 0]) ∧ w = w' := by
  by_cases h1 : n < 0
  · go_enter Tryd.func18, Tryd.ntmps18
    go_wp2
    go_ret3
    exact ⟨rfl, rfl⟩
  · have h2 : 36525 ≤ n := by omega
    clear h
    go_enter Tryd.func18, Tryd.ntmps18
    go_wp2
    go_ret3
    exact ⟨rfl, rfl⟩
theorem rDate_no (n : Int) (w : World) (h : ¬ (0 ≤ n ∧ n < 36525)) :
    Calls Tryd.prog 19 #[.int .i64 n] w fun e w' => e = .returned (.tuple #[.int .i64 0, .int .i64 0, .int .i64 0]) ∧ w = w' := by
  by_cases h1 : n < 0
  · go_enter Tryd.func19, Tryd.ntmps19
    go_wp2
    go_ret3
    exact ⟨rfl, rfl⟩
  · have h2 : 36525 ≤ n := by omega
    clear h
    go_enter Tryd.func19, Tryd.ntmps19
    go_wp2
    go_ret3
    exact ⟨rfl, rfl⟩

theorem at_end {n y m d : Int} (h : Cal.vld y m d = true) (e : Cal.num y m d = n) : Ending.returned (.tuple #[.int .i64 y, .int .i64 m, .int .i64 d]) = .returned (.tuple #[.int .i64 (Cal.Y n), .int .i64 (Cal.M n), .int .i64 (Cal.D n)]) := by
  obtain ⟨a, b, c⟩ := Cal.date_of h e
  rw [a, b, c]
theorem fst_hi0 {n : Int} (h : 0 ≤ n) : Cal.fst (2000 + n / 366) ≤ n := by unfold Cal.fst; omega

set_option maxHeartbeats 1000000 in
theorem Date_yes (n : Int) (w : World) (hl : HasLen w) (h0 : 0 ≤ n) (h1 : n < 36525) :
    Calls Tryd.prog 18 #[.int .i64 n] w fun e w' => e = .returned (.tuple #[.int .i64 (Cal.Y n), .int .i64 (Cal.M n), .int .i64 (Cal.D n)]) ∧ w = w' := by
  have g0 := fst_hi0 h0
  go_enter Tryd.func18, Tryd.ntmps18
  go_wp2
  go_loop [5] (fun t => ∃ y : Int, 2000 ≤ y ∧ y ≤ 2099 ∧ Cal.fst y ≤ n ∧ t = .int .i64 y) (fun t => (2100 - intOf t).toNat)
  case atStart => exact ⟨2000 + n / 366, by omega, by omega, g0, rfl⟩
  case round =>
    obtain ⟨y, a, b, hy, rfl⟩ := hrel
    clear g0
    by_cases hc : Cal.fst (y + 1) ≤ n
    · have hlt : y < 2099 := by
        have := Cal.fst_2100
        by_cases e : y = 2099
        · subst e; change Cal.fst 2100 ≤ n at hc; omega
        · omega
      go_wp2_with (go_at_call 54; refine (first_any _ _ (by omega) (by omega)).mono ?_; rintro e w' ⟨rfl, rfl⟩)
      go_round
      case rel => exact ⟨y + 1, by omega, by omega, hc, rfl⟩
      case measure => simp [intOf]; omega
    · have hs := Cal.fst_succ y
      have hfb := Cal.fst_bd y a (by omega)
      have h12 := Cal.cum_12 y
      have hn : n - Cal.fst y < Cal.cum y 12 := by omega
      clear hs h12
      go_wp2_with (go_at_call 54; refine (first_any _ _ (by omega) (by omega)).mono ?_; rintro e w' ⟨rfl, rfl⟩)
      go_loop [6, 29] (fun r i => ∃ k : Nat, k ≤ 12 ∧ i = .int .i64 k ∧ Cal.cum y k ≤ n - Cal.fst y ∧ r = .int .i64 (n - Cal.fst y - Cal.cum y k)) (fun _ i => (12 - intOf i).toNat)
      case atStart => exact ⟨0, by omega, rfl, by simp [Cal.cum]; omega, by simp [Cal.cum]⟩
      case round =>
        obtain ⟨k, hk, rfl, hr, rfl⟩ := hrel
        have hb := Cal.cum_bd y k
        have hd' := Cal.dim_bd y ((k : Int) + 1)
        have hlt : k < 12 := by
          by_cases e : k = 12
          · subst e; omega
          · omega
        by_cases hin : n - Cal.fst y - Cal.cum y k < Cal.dim y ((k : Int) + 1)
        · go_wp2_with (go_at_call 53; refine (length_any _ _ _ hl (by omega) (by omega) (by omega)).mono ?_; rintro e w' ⟨rfl, rfl⟩)
          go_ret3
          exact ⟨at_end (Cal.vld_iff.2 ⟨a, b, by omega, by omega, by omega, by omega⟩) (by unfold Cal.num; rw [show ((k : Int) + 1 - 1).toNat = k by omega]; omega), rfl⟩
        · go_wp2_with (go_at_call 53; refine (length_any _ _ _ hl (by omega) (by omega) (by omega)).mono ?_; rintro e w' ⟨rfl, rfl⟩)
          go_round
          case rel => exact ⟨k + 1, by omega, by go_num, by rw [Cal.cum_succ]; omega, by rw [Cal.cum_succ]; go_num⟩
          case measure => simp [intOf]; omega

set_option maxHeartbeats 1000000 in
theorem rDate_yes (n : Int) (w : World) (h0 : 0 ≤ n) (h1 : n < 36525) :
    Calls Tryd.prog 19 #[.int .i64 n] w fun e w' => e = .returned (.tuple #[.int .i64 (Cal.Y n), .int .i64 (Cal.M n), .int .i64 (Cal.D n)]) ∧ w = w' := by
  go_enter Tryd.func19, Tryd.ntmps19
  go_wp2
  go_loop [0, 5, 6] (fun r y m => ∃ (j : Int) (k : Nat) (x : Int), 2000 ≤ j ∧ j ≤ 2099 ∧ k < 12 ∧ 0 ≤ x ∧ Cal.fst j + Cal.cum j k + x = n ∧ y = .int .i64 j ∧ m = .int .i64 ((k : Int) + 1) ∧ r = .int .i64 x) (fun r _ _ => (intOf r).toNat)
  case atStart => exact ⟨2000, 0, n, by omega, by omega, by omega, h0, by simp [Cal.cum, Cal.fst_2000], rfl, rfl, rfl⟩
  case round =>
    obtain ⟨j, k, x, a, b, hk, hx, he, rfl, rfl, rfl⟩ := hrel
    have hb := Cal.cum_bd j k
    have hd' := Cal.dim_bd j ((k : Int) + 1)
    have hfj := Cal.fst_bd j a (by omega)
    have hxn : x ≤ n := by omega
    by_cases hin : x < Cal.dim j ((k : Int) + 1)
    · have hfin := at_end (n := n) (Cal.vld_iff.2 ⟨a, b, show 1 ≤ (k : Int) + 1 by omega, by omega, show 1 ≤ x + 1 by omega, by omega⟩) (by unfold Cal.num; rw [show ((k : Int) + 1 - 1).toNat = k by omega]; omega)
      have HF := Lib.hid hfin
      clear hfin he
      go_wp2_with (go_at_call 55; refine (Length_any _ _ _ (by omega)).mono ?_; rintro e w' ⟨rfl, rfl⟩)
      go_ret3
      exact ⟨HF.out, rfl⟩
    · by_cases hlast : k = 11
      · subst hlast
        rw [show ((11 : Nat) : Int) + 1 = 12 from rfl] at hin hd'
        have hl := Cal.dim_last j
        have hs := Cal.fst_succ j
        have hj : j < 2099 := by
          by_cases e : j = 2099
          · subst e
            have := Cal.fst_2100
            change Cal.fst (2099 + 1) = 36525 at this
            omega
          · omega
        have E := Lib.hid (show Cal.fst (j + 1) + Cal.cum (j + 1) 0 + (x - Cal.dim j 12) = n by simp only [Cal.cum]; omega)
        clear he hl hs
        go_wp2_with (go_at_call 55; refine (Length_any _ _ _ (by omega)).mono ?_; rintro e w' ⟨rfl, rfl⟩)
        go_round
        case rel => exact ⟨j + 1, 0, x - Cal.dim j 12, by omega, by omega, by omega, by omega, E.out, rfl, rfl, rfl⟩
        case measure => simp [intOf]; omega
      · have E := Lib.hid (show Cal.fst j + Cal.cum j (k + 1) + (x - Cal.dim j ((k : Int) + 1)) = n by rw [Cal.cum_succ]; omega)
        have hk13 : ((k : Int) + 1 + 1 == 13) = false := by simp; omega
        clear he
        go_wp2_with (go_at_call 55; refine (Length_any _ _ _ (by omega)).mono ?_; rintro e w' ⟨rfl, rfl⟩)
        go_round
        case rel => exact ⟨j, k + 1, x - Cal.dim j ((k : Int) + 1), a, b, by omega, by omega, E.out, rfl, by go_num, rfl⟩
        case measure => simp [intOf]; omega
end Go.Proofs.YtfmdnmkojeolkaaDoor
