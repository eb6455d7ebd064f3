/-
  The walk of awake: the examples of the chapter hold.
-/
import Derived.Test.YtfmdnmkojeolkaaDoorCalMin
namespace Go.Proofs.YtfmdnmkojeolkaaDoor
open Go.RowKit

theorem aw_day1 (w : World) (hl : HasLen w) : Calls Tryd.prog 15 #[.int .i64 2000, .int .i64 3, .int .i64 1] w fun e w' => e = .returned (.tuple #[.int .i64 60, .int .i64 0]) ∧ w = w' :=
  Day_yes 2000 3 1 w hl (by decide)
theorem aw_day2 (w : World) (hl : HasLen w) : Calls Tryd.prog 15 #[.int .i64 2001, .int .i64 2, .int .i64 29] w fun e w' => e = .returned (.tuple #[.int .i64 0, .int .i64 12]) ∧ w = w' :=
  Day_no 2001 2 29 w hl (by decide)
theorem aw_date (w : World) (hl : HasLen w) : Calls Tryd.prog 18 #[.int .i64 59] w fun e w' => e = .returned (.tuple #[.int .i64 2000, .int .i64 2, .int .i64 29]) ∧ w = w' :=
  Date_yes 59 w hl (by decide) (by decide)
theorem aw_parse1 (w : World) (hl : HasLen w) : Calls Tryd.prog 23 #[.string ⟨#[50, 48, 50, 54, 45, 49, 49, 45, 49, 54]⟩] w fun e w' => e = .returned (.tuple #[.int .i64 9816, .int .i64 0]) ∧ w = w' := by
  have := Parse_any ⟨#[50, 48, 50, 54, 45, 49, 49, 45, 49, 54]⟩ w hl
  rw [show Txt.pv ⟨#[50, 48, 50, 54, 45, 49, 49, 45, 49, 54]⟩ = 9816 by decide +kernel, show Txt.pe ⟨#[50, 48, 50, 54, 45, 49, 49, 45, 49, 54]⟩ = 0 by decide +kernel] at this
  exact this
theorem aw_parse2 (w : World) (hl : HasLen w) : Calls Tryd.prog 23 #[.string ⟨#[50, 48, 50, 54, 45, 48, 50, 45, 50, 57]⟩] w fun e w' => e = .returned (.tuple #[.int .i64 0, .int .i64 12]) ∧ w = w' := by
  have := Parse_any ⟨#[50, 48, 50, 54, 45, 48, 50, 45, 50, 57]⟩ w hl
  rw [show Txt.pv ⟨#[50, 48, 50, 54, 45, 48, 50, 45, 50, 57]⟩ = 0 by decide +kernel, show Txt.pe ⟨#[50, 48, 50, 54, 45, 48, 50, 45, 50, 57]⟩ = 12 by decide +kernel] at this
  exact this
theorem aw_min (w : World) : Calls Tryd.prog 27 #[.string ⟨#[48, 57, 58, 48, 53]⟩] w fun e w' => e = .returned (.tuple #[.int .i64 545, .int .i64 0]) ∧ w = w' := by
  have := Minute_any ⟨#[48, 57, 58, 48, 53]⟩ w
  rw [show Txt.mv ⟨#[48, 57, 58, 48, 53]⟩ = 545 by decide +kernel, show Txt.me ⟨#[48, 57, 58, 48, 53]⟩ = 0 by decide +kernel] at this
  exact this
theorem aw_split (w : World) : Calls Tryd.prog 30 #[.int .i64 (-1)] w fun e w' => e = .returned (.tuple #[.int .i64 (-1), .int .i64 1439]) ∧ w = w' :=
  Split_any (-1) w (by decide) (by decide)
theorem aw_week (w : World) : Calls Tryd.prog 20 #[.int .i64 0] w fun e w' => e = .returned (.int .i64 5) ∧ w = w' :=
  Weekday_any 0 w
theorem aw_print (w : World) (hl : HasLen w) : Calls Tryd.prog 22 #[.int .i64 9816] w fun e w' => e = .returned (.string ⟨#[50, 48, 50, 54, 45, 49, 49, 45, 49, 54]⟩) ∧ Below w.heap.size w w' := by
  have := Print_yes 9816 w hl (by decide)
  rw [show Txt.print 9816 = ⟨#[50, 48, 50, 54, 45, 49, 49, 45, 49, 54]⟩ by decide +kernel] at this
  exact this
theorem aw_clock (w : World) : Calls Tryd.prog 26 #[.int .i64 545] w fun e w' => e = .returned (.string ⟨#[48, 57, 58, 48, 53]⟩) ∧ Below w.heap.size w w' := by
  have := Clock_any 545 w
  rw [show Txt.clock 545 = ⟨#[48, 57, 58, 48, 53]⟩ by decide +kernel] at this
  exact this

set_option maxHeartbeats 2000000 in
set_option maxRecDepth 100000 in
theorem awake_any (w : World) (hl : HasLen w) : Calls Tryd.prog 17 #[] w fun e w' => e = .returned (.bool true) ∧ Below w.heap.size w w' := by
  go_enter Tryd.func17, Tryd.ntmps17
  go_wp2_with (first | (go_at_call 15; (first | (with_reducible refine (aw_day1 _ hl).mono ?_) | (with_reducible refine (aw_day2 _ hl).mono ?_)); rintro e w' ⟨rfl, rfl⟩) | (go_at_call 18; refine (aw_date _ hl).mono ?_; rintro e w' ⟨rfl, rfl⟩) | (go_at_call 23; (first | (with_reducible refine (aw_parse1 _ hl).mono ?_) | (with_reducible refine (aw_parse2 _ hl).mono ?_)); rintro e w' ⟨rfl, rfl⟩) | (go_at_call 27; refine (aw_min _).mono ?_; rintro e w' ⟨rfl, rfl⟩) | (go_at_call 30; refine (aw_split _).mono ?_; rintro e w' ⟨rfl, rfl⟩) | (go_at_call 20; refine (aw_week _).mono ?_; rintro e w' ⟨rfl, rfl⟩) | (go_at_call 22; refine (aw_print _ hl).mono ?_; rintro e w1 ⟨rfl, hb1⟩) | (go_at_call 26; refine (aw_clock _).mono ?_; rintro e w2 ⟨rfl, hb2⟩))
  go_ret
  exact ⟨rfl, by repeat (first | exact Below.refl _ _ | assumption | refine bw_trans ?_ (by assumption))⟩
end Go.Proofs.YtfmdnmkojeolkaaDoor
