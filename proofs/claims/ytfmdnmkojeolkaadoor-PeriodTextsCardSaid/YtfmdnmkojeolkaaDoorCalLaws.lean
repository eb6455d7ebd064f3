/-
  The walks of the six laws of layer 3: each returns true, and leaves what was there as it was, where the table of lengths reads as its text lays it.
-/
import Derived.Test.YtfmdnmkojeolkaaDoorCalAwake
import Derived.Test.YtfmdnmkojeolkaaDoorTxtLaw
namespace Go.Proofs.YtfmdnmkojeolkaaDoor
open Go.RowKit

theorem HasLen.same {w w' : World} (h : HasLen w) (e : w = w') : HasLen w' := e ▸ h

theorem days_walk (y m d : Int) (w : World) (hl : HasLen w) :
    Calls Tryd.prog 3 #[.int .i64 y, .int .i64 m, .int .i64 d] w fun e w' => e = .returned (.bool true) ∧ Below w.heap.size w w' := by
  cases hv : Cal.vld y m d
  · have HV := Lib.hid hv
    clear hv
    go_enter Tryd.func3, Tryd.ntmps3
    go_wp2_with (first | (go_at_call 15; refine (Day_no _ _ _ _ hl HV.out).mono ?_; rintro e w' ⟨rfl, rfl⟩) | (go_at_call 16; refine (rDay_no _ _ _ _ HV.out).mono ?_; rintro e w' ⟨rfl, rfl⟩) | (go_at_call 17; refine (awake_any _ hl).mono ?_; rintro e w1 ⟨rfl, hb⟩))
    go_ret
    exact ⟨rfl, hb⟩
  · have HV := Lib.hid hv
    clear hv
    go_enter Tryd.func3, Tryd.ntmps3
    go_wp2_with (first | (go_at_call 15; refine (Day_yes _ _ _ _ hl HV.out).mono ?_; rintro e w' ⟨rfl, rfl⟩) | (go_at_call 16; refine (rDay_yes _ _ _ _ HV.out).mono ?_; rintro e w' ⟨rfl, rfl⟩) | (go_at_call 17; refine (awake_any _ hl).mono ?_; rintro e w1 ⟨rfl, hb⟩))
    go_ret
    exact ⟨rfl, hb⟩

theorem dates_walk (n : Int) (w : World) (hl : HasLen w) :
    Calls Tryd.prog 4 #[.int .i64 n] w fun e w' => e = .returned (.bool true) ∧ Below w.heap.size w w' := by
  by_cases h : 0 ≤ n ∧ n < 36525
  · obtain ⟨h0, h1⟩ := h
    obtain ⟨hv, he⟩ := Cal.has n h0 h1
    have hy := (Cal.vld_iff.1 hv).1
    have hy0 : (Cal.Y n == 0) = false := by simp; omega
    have HV := Lib.hid hv
    have HE := Lib.hid he
    have day : ∀ w, HasLen w → Calls Tryd.prog 15 #[.int .i64 (Cal.Y n), .int .i64 (Cal.M n), .int .i64 (Cal.D n)] w fun e w' => e = .returned (.tuple #[.int .i64 n, .int .i64 0]) ∧ w = w' := by
      intro w hl
      have := Day_yes _ _ _ w hl hv
      rw [he] at this
      exact this
    have DAY := Lib.hid day
    clear hv he day
    go_enter Tryd.func4, Tryd.ntmps4
    go_wp2_with (first | (go_at_call 18; refine (Date_yes _ _ hl h0 h1).mono ?_; rintro e w' ⟨rfl, rfl⟩) | (go_at_call 19; refine (rDate_yes _ _ h0 h1).mono ?_; rintro e w' ⟨rfl, rfl⟩) | (go_at_call 15; refine (DAY.out _ hl).mono ?_; rintro e w' ⟨rfl, rfl⟩) | (go_at_call 17; refine (awake_any _ hl).mono ?_; rintro e w1 ⟨rfl, hb⟩))
    go_ret
    exact ⟨rfl, hb⟩
  · have H := Lib.hid h
    have HV := Lib.hid (show Cal.vld 0 0 0 = false by decide)
    clear h
    go_enter Tryd.func4, Tryd.ntmps4
    go_wp2_with (first | (go_at_call 18; refine (Date_no _ _ H.out).mono ?_; rintro e w' ⟨rfl, rfl⟩) | (go_at_call 19; refine (rDate_no _ _ H.out).mono ?_; rintro e w' ⟨rfl, rfl⟩) | (go_at_call 15; refine (Day_no _ _ _ _ hl HV.out).mono ?_; rintro e w' ⟨rfl, rfl⟩) | (go_at_call 17; refine (awake_any _ hl).mono ?_; rintro e w1 ⟨rfl, hb⟩))
    go_ret
    exact ⟨rfl, hb⟩

theorem wrap_max : wrap64 (9223372036854775807 + 1) < 9223372036854775807 := by unfold wrap64; omega
theorem wd_succ (n : Int) : Cal.wd (n + 1) = (Cal.wd n + 1) % 7 := by unfold Cal.wd; omega
theorem weeks_walk (n : Int) (w : World) (hl : HasLen w) (h0 : -9223372036854775808 ≤ n) (h1 : n ≤ 9223372036854775807) :
    Calls Tryd.prog 5 #[.int .i64 n] w fun e w' => e = .returned (.bool true) ∧ Below w.heap.size w w' := by
  have hw := Cal.wd_bd n
  by_cases hm : n = 9223372036854775807
  · have hwr : wrap64 (n + 1) < n := by subst hm; exact wrap_max
    have HM := Lib.hid hm
    clear hm
    go_enter Tryd.func5, Tryd.ntmps5
    go_wp2_with (first | (go_at_call 20; refine (Weekday_any _ _).mono ?_; rintro e w' ⟨rfl, rfl⟩) | (go_at_call 21; refine (rWeekday_any _ _).mono ?_; rintro e w' ⟨rfl, rfl⟩) | (go_at_call 17; refine (awake_any _ hl).mono ?_; rintro e w1 ⟨rfl, hb⟩))
    go_ret
    exact ⟨rfl, hb⟩
  · have h2 : n + 1 ≤ 9223372036854775807 := by omega
    have hs : (Cal.wd (n + 1) == (Cal.wd n + 1) % 7) = true := by rw [wd_succ]; simp
    clear hm
    go_enter Tryd.func5, Tryd.ntmps5
    go_wp2_with (first | (go_at_call 20; refine (Weekday_any _ _).mono ?_; rintro e w' ⟨rfl, rfl⟩) | (go_at_call 21; refine (rWeekday_any _ _).mono ?_; rintro e w' ⟨rfl, rfl⟩) | (go_at_call 17; refine (awake_any _ hl).mono ?_; rintro e w1 ⟨rfl, hb⟩))
    go_ret
    exact ⟨rfl, hb⟩

theorem splits_walk (n : Int) (w : World) (hl : HasLen w) (h0 : -9223372036854775808 ≤ n) (h1 : n ≤ 9223372036854775807) :
    Calls Tryd.prog 8 #[.int .i64 n] w fun e w' => e = .returned (.bool true) ∧ Below w.heap.size w w' := by
  have hs : (wrap64 (n - n % 1440) == wrap64 (n / 1440 * 1440)) = true := by rw [show n - n % 1440 = n / 1440 * 1440 by omega]; simp
  go_enter Tryd.func8, Tryd.ntmps8
  go_wp2_with (first | (go_at_call 30; refine (Split_any _ _ h0 h1).mono ?_; rintro e w' ⟨rfl, rfl⟩) | (go_at_call 31; refine (rSplit_any _ _ h0 h1).mono ?_; rintro e w' ⟨rfl, rfl⟩) | (go_at_call 17; refine (awake_any _ hl).mono ?_; rintro e w1 ⟨rfl, hb⟩))
  go_ret
  exact ⟨rfl, hb⟩

theorem texts_walk_big (n : Int) (s : ByteArray) (w : World) (hl : HasLen w) (h : 200 < s.size) :
    Calls Tryd.prog 6 #[.int .i64 n, .string s] w fun e w' => e = .returned (.bool true) ∧ Below w.heap.size w w' := by
  go_enter Tryd.func6, Tryd.ntmps6
  go_wp2_with (go_at_call 17; refine (awake_any _ hl).mono ?_; rintro e w1 ⟨rfl, hb⟩)
  go_ret
  exact ⟨rfl, hb⟩

theorem Print_any (n : Int) (w : World) (hl : HasLen w) :
    Calls Tryd.prog 22 #[.int .i64 n] w fun e w' => e = .returned (.string (Txt.print n)) ∧ Below w.heap.size w w' := by
  cases h : Cal.inR n
  · exact Print_no n w h
  · exact Print_yes n w hl h
theorem rPrint_any (n : Int) (w : World) :
    Calls Tryd.prog 25 #[.int .i64 n] w fun e w' => e = .returned (.string (Txt.print n)) ∧ Below w.heap.size w w' := by
  cases h : Cal.inR n
  · exact rPrint_no n w h
  · exact rPrint_yes n w h

theorem Print_out (n : Int) (w : World) (h : Cal.inR n = false) :
    Calls Tryd.prog 22 #[.int .i64 n] w fun e w' => e = .returned (.string ⟨#[]⟩) ∧ Below w.heap.size w w' := by
  have := Print_no n w h
  rw [Txt.print_out h] at this
  exact this
theorem rPrint_out (n : Int) (w : World) (h : Cal.inR n = false) :
    Calls Tryd.prog 25 #[.int .i64 n] w fun e w' => e = .returned (.string ⟨#[]⟩) ∧ Below w.heap.size w w' := by
  have := rPrint_no n w h
  rw [Txt.print_out h] at this
  exact this
theorem Parse_none (w : World) (hl : HasLen w) :
    Calls Tryd.prog 23 #[.string ⟨#[]⟩] w fun e w' => e = .returned (.tuple #[.int .i64 0, .int .i64 3]) ∧ w = w' := by
  have := Parse_any ⟨#[]⟩ w hl
  rw [show Txt.pv ⟨#[]⟩ = 0 from Txt.pv_empty, show Txt.pe ⟨#[]⟩ = 3 from Txt.pe_empty] at this
  exact this
theorem Parse_back (n : Int) (w : World) (hl : HasLen w) (h : Cal.inR n = true) :
    Calls Tryd.prog 23 #[.string (Txt.print n)] w fun e w' => e = .returned (.tuple #[.int .i64 n, .int .i64 0]) ∧ w = w' := by
  have := Parse_any (Txt.print n) w hl
  obtain ⟨e1, e2⟩ := Txt.print_parse h
  rw [e1, e2] at this
  exact this
theorem Print_back (s : ByteArray) (w : World) (hl : HasLen w) (h : Txt.pe s = 0) :
    Calls Tryd.prog 22 #[.int .i64 (Txt.pv s)] w fun e w' => e = .returned (.string s) ∧ Below w.heap.size w w' := by
  have := Print_any (Txt.pv s) w hl
  obtain ⟨-, e2⟩ := Txt.parse_print h
  rw [e2] at this
  exact this

set_option maxHeartbeats 1000000 in
theorem texts_walk (n : Int) (s : ByteArray) (w : World) (hl : HasLen w) (h : s.size ≤ 200) :
    Calls Tryd.prog 6 #[.int .i64 n, .string s] w fun e w' => e = .returned (.bool true) ∧ Below w.heap.size w w' := by
  have hp : Txt.pe s = 0 ∨ ¬ Txt.pe s = 0 := Decidable.em _
  cases hr : Cal.inR n
  · have HR := Lib.hid hr
    clear hr
    rcases hp with hp | hp
    · have HP := Lib.hid hp
      have hp' : (Txt.pe s == 0) = true := by simpa using hp
      clear hp
      go_enter Tryd.func6, Tryd.ntmps6
      go_wp2_with fail
      refine (Print_out _ _ HR.out).mono ?_
      rintro e w1 ⟨rfl, hb1⟩
      have hl1 := hl.below hb1
      go_wp2_with fail
      refine (Parse_any _ _ hl1).mono ?_
      rintro e w' ⟨rfl, rfl⟩
      go_wp2_with fail
      refine (rParse_any _ _).mono ?_
      rintro e w' ⟨rfl, rfl⟩
      go_wp2_with fail
      refine (rPrint_out _ _ HR.out).mono ?_
      rintro e w2 ⟨rfl, hb2⟩
      have hl2 := hl1.below hb2
      go_wp2_with fail
      refine (Print_back _ _ hl2 HP.out).mono ?_
      rintro e w3 ⟨rfl, hb3⟩
      have hl3 := hl2.below hb3
      go_wp2_with fail
      refine (Parse_none _ hl3).mono ?_
      rintro e w' ⟨rfl, rfl⟩
      go_wp2_with fail
      refine (awake_any _ hl3).mono ?_
      rintro e w4 ⟨rfl, hb4⟩
      go_wp2
      go_ret
      exact ⟨rfl, bw_trans (bw_trans (bw_trans hb1 hb2) hb3) hb4⟩
    · have hp' : (Txt.pe s == 0) = false := by simpa using hp
      clear hp
      go_enter Tryd.func6, Tryd.ntmps6
      go_wp2_with fail
      refine (Print_out _ _ HR.out).mono ?_
      rintro e w1 ⟨rfl, hb1⟩
      have hl1 := hl.below hb1
      go_wp2_with fail
      refine (Parse_any _ _ hl1).mono ?_
      rintro e w' ⟨rfl, rfl⟩
      go_wp2_with fail
      refine (rParse_any _ _).mono ?_
      rintro e w' ⟨rfl, rfl⟩
      go_wp2_with fail
      refine (rPrint_out _ _ HR.out).mono ?_
      rintro e w2 ⟨rfl, hb2⟩
      have hl2 := hl1.below hb2
      go_wp2_with fail
      refine (Parse_none _ hl2).mono ?_
      rintro e w' ⟨rfl, rfl⟩
      go_wp2_with fail
      refine (awake_any _ hl2).mono ?_
      rintro e w4 ⟨rfl, hb4⟩
      go_wp2
      go_ret
      exact ⟨rfl, bw_trans (bw_trans hb1 hb2) hb4⟩
  · have HR := Lib.hid hr
    have hne := Txt.print_ne hr
    have hn1 : (Txt.print n).toList.isEmpty = false := by rw [ByteArray.toList_eq]; cases hx : (Txt.print n).data.toList <;> simp_all
    clear hr hne
    rcases hp with hp | hp
    · have HP := Lib.hid hp
      have hp' : (Txt.pe s == 0) = true := by simpa using hp
      clear hp
      go_enter Tryd.func6, Tryd.ntmps6
      go_wp2_with fail
      refine (Print_any _ _ hl).mono ?_
      rintro e w1 ⟨rfl, hb1⟩
      have hl1 := hl.below hb1
      go_wp2_with fail
      refine (Parse_any _ _ hl1).mono ?_
      rintro e w' ⟨rfl, rfl⟩
      go_wp2_with fail
      refine (rParse_any _ _).mono ?_
      rintro e w' ⟨rfl, rfl⟩
      go_wp2_with fail
      refine (rPrint_any _ _).mono ?_
      rintro e w2 ⟨rfl, hb2⟩
      have hl2 := hl1.below hb2
      go_wp2_with fail
      refine (Print_back _ _ hl2 HP.out).mono ?_
      rintro e w3 ⟨rfl, hb3⟩
      have hl3 := hl2.below hb3
      go_wp2_with fail
      refine (Parse_back _ _ hl3 HR.out).mono ?_
      rintro e w' ⟨rfl, rfl⟩
      go_wp2_with fail
      refine (awake_any _ hl3).mono ?_
      rintro e w4 ⟨rfl, hb4⟩
      go_wp2
      go_ret
      exact ⟨rfl, bw_trans (bw_trans (bw_trans hb1 hb2) hb3) hb4⟩
    · have hp' : (Txt.pe s == 0) = false := by simpa using hp
      clear hp
      go_enter Tryd.func6, Tryd.ntmps6
      go_wp2_with fail
      refine (Print_any _ _ hl).mono ?_
      rintro e w1 ⟨rfl, hb1⟩
      have hl1 := hl.below hb1
      go_wp2_with fail
      refine (Parse_any _ _ hl1).mono ?_
      rintro e w' ⟨rfl, rfl⟩
      go_wp2_with fail
      refine (rParse_any _ _).mono ?_
      rintro e w' ⟨rfl, rfl⟩
      go_wp2_with fail
      refine (rPrint_any _ _).mono ?_
      rintro e w2 ⟨rfl, hb2⟩
      have hl2 := hl1.below hb2
      go_wp2_with fail
      refine (Parse_back _ _ hl2 HR.out).mono ?_
      rintro e w' ⟨rfl, rfl⟩
      go_wp2_with fail
      refine (awake_any _ hl2).mono ?_
      rintro e w4 ⟨rfl, hb4⟩
      go_wp2
      go_ret
      exact ⟨rfl, bw_trans (bw_trans hb1 hb2) hb4⟩
end Go.Proofs.YtfmdnmkojeolkaaDoor
