/-
  The walks of Print, Parse, Clock and Minute, of layer 3 and of its reference.
-/
import Derived.Test.YtfmdnmkojeolkaaDoorCalText
namespace Go.Proofs.YtfmdnmkojeolkaaDoor
open Go.RowKit

theorem HasLen.below {w w' : World} (h : HasLen w) (hb : Below w.heap.size w w') : HasLen w' := by
  intro i hi
  have hc := h i hi
  have hlt : 0 < w.heap.size := by
    rcases Nat.lt_or_ge 0 w.heap.size with h0 | h0
    · exact h0
    · simp [World.cell?, h0] at hc
  rw [← hc]
  exact hb.cell (p := ⟨0, i, none⟩) hlt

theorem ret_str {a b : ByteArray} (h : a = b) : Ending.returned (.string a) = .returned (.string b) := by rw [h]
/-- Two steps that each leave what was there. -/
theorem bw_trans {a b c : World} (h1 : Below a.heap.size a b) (h2 : Below b.heap.size b c) : Below a.heap.size a c := h1.trans (h2.mono h1.size)

theorem Print_no (n : Int) (w : World) (h : Cal.inR n = false) :
    Calls Tryd.prog 22 #[.int .i64 n] w fun e w' => e = .returned (.string (Txt.print n)) ∧ Below w.heap.size w w' := by
  have H := Lib.hid (show ¬ (0 ≤ n ∧ n < 36525) by simpa [Cal.inR] using h)
  have E := Lib.hid (show Txt.print n = ByteArray.empty by simp [Txt.print, h])
  clear h
  go_enter Tryd.func22, Tryd.ntmps22
  go_wp2_with (go_at_call 18; refine (Date_no _ _ H.out).mono ?_; rintro e w' ⟨rfl, rfl⟩)
  go_ret
  exact ⟨ret_str E.out.symm, Below.refl _ _⟩

set_option maxHeartbeats 400000 in
theorem Print_yes (n : Int) (w : World) (hl : HasLen w) (h : Cal.inR n = true) :
    Calls Tryd.prog 22 #[.int .i64 n] w fun e w' => e = .returned (.string (Txt.print n)) ∧ Below w.heap.size w w' := by
  obtain ⟨h0, h1⟩ : 0 ≤ n ∧ n < 36525 := by simpa [Cal.inR] using h
  have E := Lib.hid (show Txt.print n = Txt.tw (Cal.Y n / 100) ++ Txt.tw (Cal.Y n % 100) ++ Txt.dash ++ Txt.tw (Cal.M n) ++ Txt.dash ++ Txt.tw (Cal.D n) by simp [Txt.print, h])
  clear h
  obtain ⟨hv, -⟩ := Cal.has n h0 h1
  obtain ⟨a, b, c, d, f, g⟩ := Cal.vld_iff.1 hv
  have hd := Cal.dim_bd (Cal.Y n) (Cal.M n)
  have hy0 : (Cal.Y n == 0) = false := by simp; omega
  clear hv
  go_enter Tryd.func22, Tryd.ntmps22
  go_wp2_with (first | (go_at_call 18; refine (Date_yes _ _ hl h0 h1).mono ?_; rintro e w' ⟨rfl, rfl⟩) | (go_at_call 56; refine (two_any _ _ (by omega) (by omega)).mono ?_; rintro e w1 ⟨rfl, hb⟩))
  go_ret
  exact ⟨ret_str E.out.symm, by repeat (first | exact Below.refl _ _ | assumption | refine bw_trans ?_ (by assumption))⟩

theorem Clock_any (n : Int) (w : World) :
    Calls Tryd.prog 26 #[.int .i64 n] w fun e w' => e = .returned (.string (Txt.clock n)) ∧ Below w.heap.size w w' := by
  by_cases h0 : n < 0
  · have E := Lib.hid (show Txt.clock n = ByteArray.empty by simp [Txt.clock]; omega)
    go_enter Tryd.func26, Tryd.ntmps26
    go_wp2
    go_ret
    exact ⟨ret_str E.out.symm, Below.refl _ _⟩
  by_cases h1 : 1440 ≤ n
  · have E := Lib.hid (show Txt.clock n = ByteArray.empty by simp [Txt.clock]; omega)
    go_enter Tryd.func26, Tryd.ntmps26
    go_wp2
    go_ret
    exact ⟨ret_str E.out.symm, Below.refl _ _⟩
  have E := Lib.hid (show Txt.clock n = Txt.tw (n / 60) ++ Txt.colon ++ Txt.tw (n % 60) by unfold Txt.clock; rw [if_pos (by simp; omega)])
  go_enter Tryd.func26, Tryd.ntmps26
  go_wp2_with (go_at_call 56; refine (two_any _ _ (by omega) (by omega)).mono ?_; rintro e w1 ⟨rfl, hb⟩)
  go_ret
  exact ⟨ret_str E.out.symm, by repeat (first | exact Below.refl _ _ | assumption | refine bw_trans ?_ (by assumption))⟩

theorem rPrint_no (n : Int) (w : World) (h : Cal.inR n = false) :
    Calls Tryd.prog 25 #[.int .i64 n] w fun e w' => e = .returned (.string (Txt.print n)) ∧ Below w.heap.size w w' := by
  have H := Lib.hid (show ¬ (0 ≤ n ∧ n < 36525) by simpa [Cal.inR] using h)
  have E := Lib.hid (show Txt.print n = ByteArray.empty by simp [Txt.print, h])
  clear h
  go_enter Tryd.func25, Tryd.ntmps25
  go_wp2_with (go_at_call 19; refine (rDate_no _ _ H.out).mono ?_; rintro e w' ⟨rfl, rfl⟩)
  go_ret
  exact ⟨ret_str E.out.symm, Below.refl _ _⟩

set_option maxHeartbeats 400000 in
theorem rPrint_yes (n : Int) (w : World) (h : Cal.inR n = true) :
    Calls Tryd.prog 25 #[.int .i64 n] w fun e w' => e = .returned (.string (Txt.print n)) ∧ Below w.heap.size w w' := by
  obtain ⟨h0, h1⟩ : 0 ≤ n ∧ n < 36525 := by simpa [Cal.inR] using h
  have E := Lib.hid (show Txt.print n = Txt.tw (Cal.Y n / 100) ++ Txt.tw (Cal.Y n % 100) ++ Txt.dash ++ Txt.tw (Cal.M n) ++ Txt.dash ++ Txt.tw (Cal.D n) by simp [Txt.print, h])
  clear h
  obtain ⟨hv, -⟩ := Cal.has n h0 h1
  obtain ⟨a, b, c, d, f, g⟩ := Cal.vld_iff.1 hv
  have hd := Cal.dim_bd (Cal.Y n) (Cal.M n)
  have hy0 : (Cal.Y n == 0) = false := by simp; omega
  clear hv
  go_enter Tryd.func25, Tryd.ntmps25
  go_wp2_with (first | (go_at_call 19; refine (rDate_yes _ _ h0 h1).mono ?_; rintro e w' ⟨rfl, rfl⟩) | (go_at_call 59; refine (rtwo_any _ _ (by omega) (by omega)).mono ?_; rintro e w1 ⟨rfl, hb⟩))
  go_ret
  exact ⟨ret_str E.out.symm, by repeat (first | exact Below.refl _ _ | assumption | refine bw_trans ?_ (by assumption))⟩

theorem rClock_any (n : Int) (w : World) :
    Calls Tryd.prog 29 #[.int .i64 n] w fun e w' => e = .returned (.string (Txt.clock n)) ∧ Below w.heap.size w w' := by
  by_cases h0 : n < 0
  · have E := Lib.hid (show Txt.clock n = ByteArray.empty by simp [Txt.clock]; omega)
    go_enter Tryd.func29, Tryd.ntmps29
    go_wp2
    go_ret
    exact ⟨ret_str E.out.symm, Below.refl _ _⟩
  by_cases h1 : 1440 ≤ n
  · have E := Lib.hid (show Txt.clock n = ByteArray.empty by simp [Txt.clock]; omega)
    go_enter Tryd.func29, Tryd.ntmps29
    go_wp2
    go_ret
    exact ⟨ret_str E.out.symm, Below.refl _ _⟩
  have E := Lib.hid (show Txt.clock n = Txt.tw (n / 60) ++ Txt.colon ++ Txt.tw (n % 60) by unfold Txt.clock; rw [if_pos (by simp; omega)])
  go_enter Tryd.func29, Tryd.ntmps29
  go_wp2_with (go_at_call 59; refine (rtwo_any _ _ (by omega) (by omega)).mono ?_; rintro e w1 ⟨rfl, hb⟩)
  go_ret
  exact ⟨ret_str E.out.symm, by repeat (first | exact Below.refl _ _ | assumption | refine bw_trans ?_ (by assumption))⟩

end Go.Proofs.YtfmdnmkojeolkaaDoor
