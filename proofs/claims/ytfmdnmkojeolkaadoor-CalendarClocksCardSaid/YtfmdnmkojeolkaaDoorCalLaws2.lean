/-
  The walk of CalendarClocks.
-/
import Derived.Test.YtfmdnmkojeolkaaDoorCalAwake
import Derived.Test.YtfmdnmkojeolkaaDoorTxtLaw
namespace Go.Proofs.YtfmdnmkojeolkaaDoor
open Go.RowKit

theorem rClock_same (n : Int) (w : World) : Calls Tryd.prog 29 #[.int .i64 n] w fun e w' => e = .returned (.string (Txt.clock n)) ∧ Below w.heap.size w w' := rClock_any n w
theorem clocks_walk_big (n : Int) (s : ByteArray) (w : World) (hl : HasLen w) (h : 200 < s.size) :
    Calls Tryd.prog 7 #[.int .i64 n, .string s] w fun e w' => e = .returned (.bool true) ∧ Below w.heap.size w w' := by
  go_enter Tryd.func7, Tryd.ntmps7
  go_wp2_with (go_at_call 17; refine (awake_any _ hl).mono ?_; rintro e w1 ⟨rfl, hb⟩)
  go_ret
  exact ⟨rfl, hb⟩
theorem Clock_out (n : Int) (w : World) (h : ¬ (0 ≤ n ∧ n < 1440)) :
    Calls Tryd.prog 26 #[.int .i64 n] w fun e w' => e = .returned (.string ⟨#[]⟩) ∧ Below w.heap.size w w' := by
  have := Clock_any n w
  rw [Txt.clock_out h] at this
  exact this
theorem rClock_out (n : Int) (w : World) (h : ¬ (0 ≤ n ∧ n < 1440)) :
    Calls Tryd.prog 29 #[.int .i64 n] w fun e w' => e = .returned (.string ⟨#[]⟩) ∧ Below w.heap.size w w' := by
  have := rClock_any n w
  rw [Txt.clock_out h] at this
  exact this
theorem Minute_none (w : World) :
    Calls Tryd.prog 27 #[.string ⟨#[]⟩] w fun e w' => e = .returned (.tuple #[.int .i64 0, .int .i64 3]) ∧ w = w' := by
  have := Minute_any ⟨#[]⟩ w
  rw [show Txt.mv ⟨#[]⟩ = 0 from Txt.mv_empty, show Txt.me ⟨#[]⟩ = 3 from Txt.me_empty] at this
  exact this
theorem Minute_back (n : Int) (w : World) (h : 0 ≤ n ∧ n < 1440) :
    Calls Tryd.prog 27 #[.string (Txt.clock n)] w fun e w' => e = .returned (.tuple #[.int .i64 n, .int .i64 0]) ∧ w = w' := by
  have := Minute_any (Txt.clock n) w
  obtain ⟨e1, e2⟩ := Txt.clock_min h.1 h.2
  rw [e1, e2] at this
  exact this
theorem Clock_back (s : ByteArray) (w : World) (h : Txt.me s = 0) :
    Calls Tryd.prog 26 #[.int .i64 (Txt.mv s)] w fun e w' => e = .returned (.string s) ∧ Below w.heap.size w w' := by
  have := Clock_any (Txt.mv s) w
  obtain ⟨-, -, e2⟩ := Txt.min_clock h
  rw [e2] at this
  exact this

set_option maxHeartbeats 1000000 in
theorem clocks_walk (n : Int) (s : ByteArray) (w : World) (hl : HasLen w) (h : s.size ≤ 200) :
    Calls Tryd.prog 7 #[.int .i64 n, .string s] w fun e w' => e = .returned (.bool true) ∧ Below w.heap.size w w' := by
  have hp : Txt.me s = 0 ∨ ¬ Txt.me s = 0 := Decidable.em _
  by_cases hr : 0 ≤ n ∧ n < 1440
  rotate_left
  · have HR := Lib.hid hr
    clear hr
    rcases hp with hp | hp
    · have HP := Lib.hid hp
      have hp' : (Txt.me s == 0) = true := by simpa using hp
      clear hp
      go_enter Tryd.func7, Tryd.ntmps7
      go_wp2_with fail
      refine (Clock_out _ _ HR.out).mono ?_
      rintro e w1 ⟨rfl, hb1⟩
      have hl1 := hl.below hb1
      go_wp2_with fail
      refine (Minute_any _ _).mono ?_
      rintro e w' ⟨rfl, rfl⟩
      go_wp2_with fail
      refine (rMinute_any _ _).mono ?_
      rintro e w' ⟨rfl, rfl⟩
      go_wp2_with fail
      refine (rClock_out _ _ HR.out).mono ?_
      rintro e w2 ⟨rfl, hb2⟩
      have hl2 := hl1.below hb2
      go_wp2_with fail
      refine (Clock_back _ _ HP.out).mono ?_
      rintro e w3 ⟨rfl, hb3⟩
      have hl3 := hl2.below hb3
      go_wp2_with fail
      refine (Minute_none _).mono ?_
      rintro e w' ⟨rfl, rfl⟩
      go_wp2_with fail
      refine (awake_any _ hl3).mono ?_
      rintro e w4 ⟨rfl, hb4⟩
      go_wp2
      go_ret
      exact ⟨rfl, bw_trans (bw_trans (bw_trans hb1 hb2) hb3) hb4⟩
    · have hp' : (Txt.me s == 0) = false := by simpa using hp
      clear hp
      go_enter Tryd.func7, Tryd.ntmps7
      go_wp2_with fail
      refine (Clock_out _ _ HR.out).mono ?_
      rintro e w1 ⟨rfl, hb1⟩
      have hl1 := hl.below hb1
      go_wp2_with fail
      refine (Minute_any _ _).mono ?_
      rintro e w' ⟨rfl, rfl⟩
      go_wp2_with fail
      refine (rMinute_any _ _).mono ?_
      rintro e w' ⟨rfl, rfl⟩
      go_wp2_with fail
      refine (rClock_out _ _ HR.out).mono ?_
      rintro e w2 ⟨rfl, hb2⟩
      have hl2 := hl1.below hb2
      go_wp2_with fail
      refine (Minute_none _).mono ?_
      rintro e w' ⟨rfl, rfl⟩
      go_wp2_with fail
      refine (awake_any _ hl2).mono ?_
      rintro e w4 ⟨rfl, hb4⟩
      go_wp2
      go_ret
      exact ⟨rfl, bw_trans (bw_trans hb1 hb2) hb4⟩
  · have HR := Lib.hid hr
    have hne := Txt.clock_ne hr.1 hr.2
    have hn1 : (Txt.clock n).toList.isEmpty = false := by rw [ByteArray.toList_eq]; cases hx : (Txt.clock n).data.toList <;> simp_all
    clear hr hne
    rcases hp with hp | hp
    · have HP := Lib.hid hp
      have hp' : (Txt.me s == 0) = true := by simpa using hp
      clear hp
      go_enter Tryd.func7, Tryd.ntmps7
      go_wp2_with fail
      refine (Clock_any _ _).mono ?_
      rintro e w1 ⟨rfl, hb1⟩
      have hl1 := hl.below hb1
      go_wp2_with fail
      refine (Minute_any _ _).mono ?_
      rintro e w' ⟨rfl, rfl⟩
      go_wp2_with fail
      refine (rMinute_any _ _).mono ?_
      rintro e w' ⟨rfl, rfl⟩
      go_wp2_with fail
      refine (rClock_any _ _).mono ?_
      rintro e w2 ⟨rfl, hb2⟩
      have hl2 := hl1.below hb2
      go_wp2_with fail
      refine (Clock_back _ _ HP.out).mono ?_
      rintro e w3 ⟨rfl, hb3⟩
      have hl3 := hl2.below hb3
      go_wp2_with fail
      refine (Minute_back _ _ HR.out).mono ?_
      rintro e w' ⟨rfl, rfl⟩
      go_wp2_with fail
      refine (awake_any _ hl3).mono ?_
      rintro e w4 ⟨rfl, hb4⟩
      go_wp2
      go_ret
      exact ⟨rfl, bw_trans (bw_trans (bw_trans hb1 hb2) hb3) hb4⟩
    · have hp' : (Txt.me s == 0) = false := by simpa using hp
      clear hp
      go_enter Tryd.func7, Tryd.ntmps7
      go_wp2_with fail
      refine (Clock_any _ _).mono ?_
      rintro e w1 ⟨rfl, hb1⟩
      have hl1 := hl.below hb1
      go_wp2_with fail
      refine (Minute_any _ _).mono ?_
      rintro e w' ⟨rfl, rfl⟩
      go_wp2_with fail
      refine (rMinute_any _ _).mono ?_
      rintro e w' ⟨rfl, rfl⟩
      go_wp2_with fail
      refine (rClock_any _ _).mono ?_
      rintro e w2 ⟨rfl, hb2⟩
      have hl2 := hl1.below hb2
      go_wp2_with fail
      refine (Minute_back _ _ HR.out).mono ?_
      rintro e w' ⟨rfl, rfl⟩
      go_wp2_with fail
      refine (awake_any _ hl2).mono ?_
      rintro e w4 ⟨rfl, hb4⟩
      go_wp2
      go_ret
      exact ⟨rfl, bw_trans (bw_trans hb1 hb2) hb4⟩
end Go.Proofs.YtfmdnmkojeolkaaDoor
