/-
  The walks of Parse and Minute, of layer 3 and of its reference.
-/
import Derived.Test.YtfmdnmkojeolkaaDoorCalPrint
namespace Go.Proofs.YtfmdnmkojeolkaaDoor
open Go.RowKit

theorem getD_ne {s : ByteArray} {k : Nat} {c : UInt8} (hk : k < s.size) (h : s.data.toList.getD k 0 ≠ c) : ((s[k].toNat : Int) != (c.toNat : Int)) = true := by
  rw [Txt.at_getD s k hk] at h
  rw [bne_iff_ne]
  intro e
  apply h
  apply UInt8.toNat_inj.1
  omega
theorem getD_eq {s : ByteArray} {k : Nat} {c : UInt8} (hk : k < s.size) (h : s.data.toList.getD k 0 = c) : ((s[k].toNat : Int) != (c.toNat : Int)) = false := by
  rw [Txt.at_getD s k hk] at h
  rw [h]; simp

set_option maxHeartbeats 400000 in
theorem Parse_any (s : ByteArray) (w : World) (hl : HasLen w) :
    Calls Tryd.prog 23 #[.string s] w fun e w' => e = .returned (.tuple #[.int .i64 (Txt.pv s), .int .i64 (Txt.pe s)]) ∧ w = w' := by
  by_cases h0 : s.size = 10
  rotate_left
  · obtain ⟨e1, e2⟩ := Txt.p_bad (Txt.okf_not (fun h => h0 h.1))
    have E1 := Lib.hid e1; have E2 := Lib.hid e2; clear e1 e2
    have h0' : ((s.size : Int) != 10) = true := by rw [bne_iff_ne]; omega
    go_enter Tryd.func23, Tryd.ntmps23
    go_wp2_with fail
    go_ret2
    exact ⟨ret_int2 E1.out.symm E2.out.symm, rfl⟩
  by_cases h4 : s.data.toList.getD 4 0 = 45
  rotate_left
  · obtain ⟨e1, e2⟩ := Txt.p_bad (Txt.okf_not (fun h => h4 h.2.1))
    have E1 := Lib.hid e1; have E2 := Lib.hid e2; clear e1 e2
    have h4' : ((s[4].toNat : Int) != 45) = true := getD_ne (by omega) h4
    clear h4
    go_enter Tryd.func23, Tryd.ntmps23
    go_wp2_with fail
    go_ret2
    exact ⟨ret_int2 E1.out.symm E2.out.symm, rfl⟩
  by_cases h7 : s.data.toList.getD 7 0 = 45
  rotate_left
  · obtain ⟨e1, e2⟩ := Txt.p_bad (Txt.okf_not (fun h => h7 h.2.2.1))
    have E1 := Lib.hid e1; have E2 := Lib.hid e2; clear e1 e2
    have h4' : ((s[4].toNat : Int) != 45) = false := getD_eq (by omega) h4
    have h7' : ((s[7].toNat : Int) != 45) = true := getD_ne (by omega) h7
    clear h4 h7
    go_enter Tryd.func23, Tryd.ntmps23
    go_wp2_with fail
    go_ret2
    exact ⟨ret_int2 E1.out.symm E2.out.symm, rfl⟩
  have h4' : ((s[4].toNat : Int) != 45) = false := getD_eq (by omega) h4
  have h7' : ((s[7].toNat : Int) != 45) = false := getD_eq (by omega) h7
  have b1 := Txt.dgv_bd (Txt.seg s 0 4) (by have := Txt.seg_len s 0 4; omega)
  have b2 := Txt.dgv_bd (Txt.seg s 5 7) (by have := Txt.seg_len s 5 7; omega)
  have b3 := Txt.dgv_bd (Txt.seg s 8 10) (by have := Txt.seg_len s 8 10; omega)
  by_cases hd : Txt.dgs (Txt.seg s 0 4) = true ∧ Txt.dgs (Txt.seg s 5 7) = true ∧ Txt.dgs (Txt.seg s 8 10) = true
  rotate_left
  · obtain ⟨e1, e2⟩ := Txt.p_bad (Txt.okf_not (fun h => hd h.2.2.2))
    have E1 := Lib.hid e1; have E2 := Lib.hid e2; clear e1 e2 h4 h7
    by_cases d1 : Txt.dgs (Txt.seg s 0 4) = true
    · by_cases d2 : Txt.dgs (Txt.seg s 5 7) = true
      · have d3 : Txt.dgs (Txt.seg s 8 10) = false := by
          cases e : Txt.dgs (Txt.seg s 8 10)
          · rfl
          · exact absurd ⟨d1, d2, e⟩ hd
        clear hd
        go_enter Tryd.func23, Tryd.ntmps23
        go_wp2_with (go_at_call 57; refine (digits_at _ _ _ _ (by omega)).mono ?_; rintro e w' ⟨rfl, rfl⟩)
        go_ret2
        exact ⟨ret_int2 E1.out.symm E2.out.symm, rfl⟩
      · have d2 : Txt.dgs (Txt.seg s 5 7) = false := by simpa using d2
        clear hd
        go_enter Tryd.func23, Tryd.ntmps23
        go_wp2_with (go_at_call 57; refine (digits_at _ _ _ _ (by omega)).mono ?_; rintro e w' ⟨rfl, rfl⟩)
        go_ret2
        exact ⟨ret_int2 E1.out.symm E2.out.symm, rfl⟩
    · have d1 : Txt.dgs (Txt.seg s 0 4) = false := by simpa using d1
      clear hd
      go_enter Tryd.func23, Tryd.ntmps23
      go_wp2_with (go_at_call 57; refine (digits_at _ _ _ _ (by omega)).mono ?_; rintro e w' ⟨rfl, rfl⟩)
      go_ret2
      exact ⟨ret_int2 E1.out.symm E2.out.symm, rfl⟩
  obtain ⟨d1, d2, d3⟩ := hd
  have hok : Txt.okf s = true := Txt.okf_iff.2 ⟨h0, h4, h7, d1, d2, d3⟩
  have v1 := Lib.hid (Txt.dgv_yes d1)
  have v2 := Lib.hid (Txt.dgv_yes d2)
  have v3 := Lib.hid (Txt.dgv_yes d3)
  clear h4 h7
  by_cases hp : Txt.pok s = true
  · obtain ⟨e1, e2⟩ := Txt.p_ok hok hp
    have E1 := Lib.hid e1; have E2 := Lib.hid e2; clear e1 e2 hok
    have HP := Lib.hid (show Cal.vld (Txt.dgv (Txt.seg s 0 4)) (Txt.dgv (Txt.seg s 5 7)) (Txt.dgv (Txt.seg s 8 10)) = true by rw [v1.out, v2.out, v3.out]; exact hp)
    clear hp
    go_enter Tryd.func23, Tryd.ntmps23
    go_wp2_with (first | (go_at_call 57; refine (digits_at _ _ _ _ (by omega)).mono ?_; rintro e w' ⟨rfl, rfl⟩) | (go_at_call 15; refine (Day_yes _ _ _ _ hl HP.out).mono ?_; rintro e w' ⟨rfl, rfl⟩))
    go_ret2
    exact ⟨ret_int2 (by rw [E1.out, v1.out, v2.out, v3.out]) E2.out.symm, rfl⟩
  · obtain ⟨e1, e2⟩ := Txt.p_day hok (by simpa using hp)
    have E1 := Lib.hid e1; have E2 := Lib.hid e2; clear e1 e2 hok
    have HP := Lib.hid (show Cal.vld (Txt.dgv (Txt.seg s 0 4)) (Txt.dgv (Txt.seg s 5 7)) (Txt.dgv (Txt.seg s 8 10)) = false by rw [v1.out, v2.out, v3.out]; simpa [Txt.pok] using hp)
    clear hp
    go_enter Tryd.func23, Tryd.ntmps23
    go_wp2_with (first | (go_at_call 57; refine (digits_at _ _ _ _ (by omega)).mono ?_; rintro e w' ⟨rfl, rfl⟩) | (go_at_call 15; refine (Day_no _ _ _ _ hl HP.out).mono ?_; rintro e w' ⟨rfl, rfl⟩))
    go_ret2
    exact ⟨ret_int2 E1.out.symm E2.out.symm, rfl⟩

/-- The digits of a part of a string, of the reference. -/
theorem rdigits_at (s : ByteArray) (a n : Int) (i j : Nat) (w : World) (h : j ≤ s.size) (ha : a = (i : Int)) (hj : a + n = (j : Int)) (hn : n ≤ 8) (hn0 : 0 ≤ n) (hz : s.size ≤ 1000) :
    Calls Tryd.prog 58 #[.string s, .int .i64 a, .int .i64 n] w fun e w' => e = .returned (.int .i64 (Txt.dgn (Txt.seg s i j))) ∧ w = w' := by
  subst ha
  obtain ⟨k, rfl⟩ := Int.eq_ofNat_of_zero_le hn0
  have := rdigits_any s i k w (by omega) (by omega) hz
  rw [show i + k = j by omega] at this
  exact this
theorem dgn_lt {l : List UInt8} (h : l.length ≤ 8) : (Txt.dgn l < 0 ↔ Txt.dgs l = false) ∧ -1 ≤ Txt.dgn l ∧ Txt.dgn l < 100000000 := by
  cases hd : Txt.dgs l
  · rw [Txt.dgn_not hd]; simp
  · have := Txt.val_le l hd h; rw [Txt.dgn_yes hd]; simp; omega

set_option maxHeartbeats 400000 in
theorem rParse_any (s : ByteArray) (w : World) :
    Calls Tryd.prog 24 #[.string s] w fun e w' => e = .returned (.tuple #[.int .i64 (Txt.pv s), .int .i64 (Txt.pe s)]) ∧ w = w' := by
  by_cases h0 : s.size = 10
  rotate_left
  · obtain ⟨e1, e2⟩ := Txt.p_bad (Txt.okf_not (fun h => h0 h.1))
    have E1 := Lib.hid e1; have E2 := Lib.hid e2; clear e1 e2
    have h0' : ((s.size : Int) != 10) = true := by rw [bne_iff_ne]; omega
    go_enter Tryd.func24, Tryd.ntmps24
    go_wp2_with fail
    go_ret2
    exact ⟨ret_int2 E1.out.symm E2.out.symm, rfl⟩
  by_cases h4 : s.data.toList.getD 4 0 = 45
  rotate_left
  · obtain ⟨e1, e2⟩ := Txt.p_bad (Txt.okf_not (fun h => h4 h.2.1))
    have E1 := Lib.hid e1; have E2 := Lib.hid e2; clear e1 e2
    have h4' : ((s[4].toNat : Int) != 45) = true := getD_ne (by omega) h4
    clear h4
    go_enter Tryd.func24, Tryd.ntmps24
    go_wp2_with fail
    go_ret2
    exact ⟨ret_int2 E1.out.symm E2.out.symm, rfl⟩
  by_cases h7 : s.data.toList.getD 7 0 = 45
  rotate_left
  · obtain ⟨e1, e2⟩ := Txt.p_bad (Txt.okf_not (fun h => h7 h.2.2.1))
    have E1 := Lib.hid e1; have E2 := Lib.hid e2; clear e1 e2
    have h4' : ((s[4].toNat : Int) != 45) = false := getD_eq (by omega) h4
    have h7' : ((s[7].toNat : Int) != 45) = true := getD_ne (by omega) h7
    clear h4 h7
    go_enter Tryd.func24, Tryd.ntmps24
    go_wp2_with fail
    go_ret2
    exact ⟨ret_int2 E1.out.symm E2.out.symm, rfl⟩
  have h4' : ((s[4].toNat : Int) != 45) = false := getD_eq (by omega) h4
  have h7' : ((s[7].toNat : Int) != 45) = false := getD_eq (by omega) h7
  obtain ⟨q1, b1⟩ := dgn_lt (l := Txt.seg s 0 4) (by have := Txt.seg_len s 0 4; omega)
  obtain ⟨q2, b2⟩ := dgn_lt (l := Txt.seg s 5 7) (by have := Txt.seg_len s 5 7; omega)
  obtain ⟨q3, b3⟩ := dgn_lt (l := Txt.seg s 8 10) (by have := Txt.seg_len s 8 10; omega)
  have h10 : 10 ≤ s.size ∧ s.size ≤ 10 := by omega
  by_cases hd : Txt.dgs (Txt.seg s 0 4) = true ∧ Txt.dgs (Txt.seg s 5 7) = true ∧ Txt.dgs (Txt.seg s 8 10) = true
  rotate_left
  · obtain ⟨e1, e2⟩ := Txt.p_bad (Txt.okf_not (fun h => hd h.2.2.2))
    have E1 := Lib.hid e1; have E2 := Lib.hid e2; clear e1 e2 h4 h7
    by_cases d1 : Txt.dgs (Txt.seg s 0 4) = true
    · have d1' : ¬ Txt.dgn (Txt.seg s 0 4) < 0 := by rw [q1, d1]; simp
      by_cases d2 : Txt.dgs (Txt.seg s 5 7) = true
      · have d3 : Txt.dgs (Txt.seg s 8 10) = false := by
          cases e : Txt.dgs (Txt.seg s 8 10)
          · rfl
          · exact absurd ⟨d1, d2, e⟩ hd
        have d2' : ¬ Txt.dgn (Txt.seg s 5 7) < 0 := by rw [q2, d2]; simp
        have d3' := q3.2 d3
        clear hd q1 q2 q3 d1 d2 d3
        go_enter Tryd.func24, Tryd.ntmps24
        go_wp2_with (go_at_call 58; (first | (with_reducible refine (rdigits_at s 0 4 0 4 _ (by omega) (by omega) (by omega) (by omega) (by omega) (by omega)).mono ?_) | (with_reducible refine (rdigits_at s 5 2 5 7 _ (by omega) (by omega) (by omega) (by omega) (by omega) (by omega)).mono ?_) | (with_reducible refine (rdigits_at s 8 2 8 10 _ (by omega) (by omega) (by omega) (by omega) (by omega) (by omega)).mono ?_)); rintro e w' ⟨rfl, rfl⟩)
        go_ret2
        exact ⟨ret_int2 E1.out.symm E2.out.symm, rfl⟩
      · have d2' := q2.2 (by simpa using d2)
        clear hd q1 q2 q3 d1 d2
        go_enter Tryd.func24, Tryd.ntmps24
        go_wp2_with (go_at_call 58; (first | (with_reducible refine (rdigits_at s 0 4 0 4 _ (by omega) (by omega) (by omega) (by omega) (by omega) (by omega)).mono ?_) | (with_reducible refine (rdigits_at s 5 2 5 7 _ (by omega) (by omega) (by omega) (by omega) (by omega) (by omega)).mono ?_) | (with_reducible refine (rdigits_at s 8 2 8 10 _ (by omega) (by omega) (by omega) (by omega) (by omega) (by omega)).mono ?_)); rintro e w' ⟨rfl, rfl⟩)
        go_ret2
        exact ⟨ret_int2 E1.out.symm E2.out.symm, rfl⟩
    · have d1' := q1.2 (by simpa using d1)
      clear hd q1 q2 q3 d1
      go_enter Tryd.func24, Tryd.ntmps24
      go_wp2_with (go_at_call 58; (first | (with_reducible refine (rdigits_at s 0 4 0 4 _ (by omega) (by omega) (by omega) (by omega) (by omega) (by omega)).mono ?_) | (with_reducible refine (rdigits_at s 5 2 5 7 _ (by omega) (by omega) (by omega) (by omega) (by omega) (by omega)).mono ?_) | (with_reducible refine (rdigits_at s 8 2 8 10 _ (by omega) (by omega) (by omega) (by omega) (by omega) (by omega)).mono ?_)); rintro e w' ⟨rfl, rfl⟩)
      go_ret2
      exact ⟨ret_int2 E1.out.symm E2.out.symm, rfl⟩
  obtain ⟨d1, d2, d3⟩ := hd
  have hok : Txt.okf s = true := Txt.okf_iff.2 ⟨h0, h4, h7, d1, d2, d3⟩
  have v1 := Lib.hid (Txt.dgn_yes d1)
  have v2 := Lib.hid (Txt.dgn_yes d2)
  have v3 := Lib.hid (Txt.dgn_yes d3)
  have d1' : ¬ Txt.dgn (Txt.seg s 0 4) < 0 := by rw [q1, d1]; simp
  have d2' : ¬ Txt.dgn (Txt.seg s 5 7) < 0 := by rw [q2, d2]; simp
  have d3' : ¬ Txt.dgn (Txt.seg s 8 10) < 0 := by rw [q3, d3]; simp
  clear h4 h7 q1 q2 q3 d1 d2 d3
  by_cases hp : Txt.pok s = true
  · obtain ⟨e1, e2⟩ := Txt.p_ok hok hp
    have E1 := Lib.hid e1; have E2 := Lib.hid e2; clear e1 e2 hok
    have HP := Lib.hid (show Cal.vld (Txt.dgn (Txt.seg s 0 4)) (Txt.dgn (Txt.seg s 5 7)) (Txt.dgn (Txt.seg s 8 10)) = true by rw [v1.out, v2.out, v3.out]; exact hp)
    clear hp
    go_enter Tryd.func24, Tryd.ntmps24
    go_wp2_with (first | (go_at_call 58; (first | (with_reducible refine (rdigits_at s 0 4 0 4 _ (by omega) (by omega) (by omega) (by omega) (by omega) (by omega)).mono ?_) | (with_reducible refine (rdigits_at s 5 2 5 7 _ (by omega) (by omega) (by omega) (by omega) (by omega) (by omega)).mono ?_) | (with_reducible refine (rdigits_at s 8 2 8 10 _ (by omega) (by omega) (by omega) (by omega) (by omega) (by omega)).mono ?_)); rintro e w' ⟨rfl, rfl⟩) | (go_at_call 16; refine (rDay_yes _ _ _ _ HP.out).mono ?_; rintro e w' ⟨rfl, rfl⟩))
    go_ret2
    exact ⟨ret_int2 (by rw [E1.out, v1.out, v2.out, v3.out]) E2.out.symm, rfl⟩
  · obtain ⟨e1, e2⟩ := Txt.p_day hok (by simpa using hp)
    have E1 := Lib.hid e1; have E2 := Lib.hid e2; clear e1 e2 hok
    have HP := Lib.hid (show Cal.vld (Txt.dgn (Txt.seg s 0 4)) (Txt.dgn (Txt.seg s 5 7)) (Txt.dgn (Txt.seg s 8 10)) = false by rw [v1.out, v2.out, v3.out]; simpa [Txt.pok] using hp)
    clear hp
    go_enter Tryd.func24, Tryd.ntmps24
    go_wp2_with (first | (go_at_call 58; (first | (with_reducible refine (rdigits_at s 0 4 0 4 _ (by omega) (by omega) (by omega) (by omega) (by omega) (by omega)).mono ?_) | (with_reducible refine (rdigits_at s 5 2 5 7 _ (by omega) (by omega) (by omega) (by omega) (by omega) (by omega)).mono ?_) | (with_reducible refine (rdigits_at s 8 2 8 10 _ (by omega) (by omega) (by omega) (by omega) (by omega) (by omega)).mono ?_)); rintro e w' ⟨rfl, rfl⟩) | (go_at_call 16; refine (rDay_no _ _ _ _ HP.out).mono ?_; rintro e w' ⟨rfl, rfl⟩))
    go_ret2
    exact ⟨ret_int2 E1.out.symm E2.out.symm, rfl⟩

end Go.Proofs.YtfmdnmkojeolkaaDoor
