/-
  The walks of Minute, of layer 3 and of its reference.
-/
import Derived.Test.YtfmdnmkojeolkaaDoorCalParse
namespace Go.Proofs.YtfmdnmkojeolkaaDoor
open Go.RowKit

set_option maxHeartbeats 400000 in
theorem Minute_any (s : ByteArray) (w : World) :
    Calls Tryd.prog 27 #[.string s] w fun e w' => e = .returned (.tuple #[.int .i64 (Txt.mv s), .int .i64 (Txt.me s)]) ∧ w = w' := by
  by_cases h0 : s.size = 5
  rotate_left
  · obtain ⟨e1, e2⟩ := Txt.m_bad (Txt.okc_not (fun h => h0 h.1))
    have E1 := Lib.hid e1; have E2 := Lib.hid e2; clear e1 e2
    have h0' : ((s.size : Int) != 5) = true := by rw [bne_iff_ne]; omega
    go_enter Tryd.func27, Tryd.ntmps27
    go_wp2_with fail
    go_ret2
    exact ⟨ret_int2 E1.out.symm E2.out.symm, rfl⟩
  by_cases h4 : s.data.toList.getD 2 0 = 58
  rotate_left
  · obtain ⟨e1, e2⟩ := Txt.m_bad (Txt.okc_not (fun h => h4 h.2.1))
    have E1 := Lib.hid e1; have E2 := Lib.hid e2; clear e1 e2
    have h4' : ((s[2].toNat : Int) != 58) = true := getD_ne (by omega) h4
    clear h4
    go_enter Tryd.func27, Tryd.ntmps27
    go_wp2_with fail
    go_ret2
    exact ⟨ret_int2 E1.out.symm E2.out.symm, rfl⟩
  have h4' : ((s[2].toNat : Int) != 58) = false := getD_eq (by omega) h4
  have b1 := Txt.dgv_bd (Txt.seg s 0 2) (by have := Txt.seg_len s 0 2; omega)
  have b2 := Txt.dgv_bd (Txt.seg s 3 5) (by have := Txt.seg_len s 3 5; omega)
  by_cases hd : Txt.dgs (Txt.seg s 0 2) = true ∧ Txt.dgs (Txt.seg s 3 5) = true
  rotate_left
  · obtain ⟨e1, e2⟩ := Txt.m_bad (Txt.okc_not (fun h => hd h.2.2))
    have E1 := Lib.hid e1; have E2 := Lib.hid e2; clear e1 e2 h4
    by_cases d1 : Txt.dgs (Txt.seg s 0 2) = true
    · have d2 : Txt.dgs (Txt.seg s 3 5) = false := by
        cases e : Txt.dgs (Txt.seg s 3 5)
        · rfl
        · exact absurd ⟨d1, e⟩ hd
      clear hd
      go_enter Tryd.func27, Tryd.ntmps27
      go_wp2_with (go_at_call 57; refine (digits_at _ _ _ _ (by omega)).mono ?_; rintro e w' ⟨rfl, rfl⟩)
      go_ret2
      exact ⟨ret_int2 E1.out.symm E2.out.symm, rfl⟩
    · have d1 : Txt.dgs (Txt.seg s 0 2) = false := by simpa using d1
      clear hd
      go_enter Tryd.func27, Tryd.ntmps27
      go_wp2_with (go_at_call 57; refine (digits_at _ _ _ _ (by omega)).mono ?_; rintro e w' ⟨rfl, rfl⟩)
      go_ret2
      exact ⟨ret_int2 E1.out.symm E2.out.symm, rfl⟩
  obtain ⟨d1, d2⟩ := hd
  have hok : Txt.okc s = true := Txt.okc_iff.2 ⟨h0, h4, d1, d2⟩
  have v1 := Lib.hid (Txt.dgv_yes d1)
  have v2 := Lib.hid (Txt.dgv_yes d2)
  clear h4
  by_cases hh : 23 < Txt.dgv (Txt.seg s 0 2)
  · obtain ⟨e1, e2⟩ := Txt.m_time hok (by rw [v1.out] at hh; simp [Txt.tok]; omega)
    have E1 := Lib.hid e1; have E2 := Lib.hid e2; clear e1 e2 hok
    go_enter Tryd.func27, Tryd.ntmps27
    go_wp2_with (go_at_call 57; refine (digits_at _ _ _ _ (by omega)).mono ?_; rintro e w' ⟨rfl, rfl⟩)
    go_ret2
    exact ⟨ret_int2 E1.out.symm E2.out.symm, rfl⟩
  by_cases hm : 59 < Txt.dgv (Txt.seg s 3 5)
  · obtain ⟨e1, e2⟩ := Txt.m_time hok (by rw [v2.out] at hm; simp [Txt.tok]; omega)
    have E1 := Lib.hid e1; have E2 := Lib.hid e2; clear e1 e2 hok
    go_enter Tryd.func27, Tryd.ntmps27
    go_wp2_with (go_at_call 57; refine (digits_at _ _ _ _ (by omega)).mono ?_; rintro e w' ⟨rfl, rfl⟩)
    go_ret2
    exact ⟨ret_int2 E1.out.symm E2.out.symm, rfl⟩
  obtain ⟨e1, e2⟩ := Txt.m_ok hok (by rw [v1.out] at hh; rw [v2.out] at hm; simp [Txt.tok]; omega)
  have E1 := Lib.hid e1; have E2 := Lib.hid e2; clear e1 e2 hok
  go_enter Tryd.func27, Tryd.ntmps27
  go_wp2_with (go_at_call 57; refine (digits_at _ _ _ _ (by omega)).mono ?_; rintro e w' ⟨rfl, rfl⟩)
  go_ret2
  exact ⟨ret_int2 (by rw [E1.out, v1.out, v2.out]) E2.out.symm, rfl⟩

set_option maxHeartbeats 400000 in
theorem rMinute_any (s : ByteArray) (w : World) :
    Calls Tryd.prog 28 #[.string s] w fun e w' => e = .returned (.tuple #[.int .i64 (Txt.mv s), .int .i64 (Txt.me s)]) ∧ w = w' := by
  by_cases h0 : s.size = 5
  rotate_left
  · obtain ⟨e1, e2⟩ := Txt.m_bad (Txt.okc_not (fun h => h0 h.1))
    have E1 := Lib.hid e1; have E2 := Lib.hid e2; clear e1 e2
    have h0' : ((s.size : Int) != 5) = true := by rw [bne_iff_ne]; omega
    go_enter Tryd.func28, Tryd.ntmps28
    go_wp2_with fail
    go_ret2
    exact ⟨ret_int2 E1.out.symm E2.out.symm, rfl⟩
  by_cases h4 : s.data.toList.getD 2 0 = 58
  rotate_left
  · obtain ⟨e1, e2⟩ := Txt.m_bad (Txt.okc_not (fun h => h4 h.2.1))
    have E1 := Lib.hid e1; have E2 := Lib.hid e2; clear e1 e2
    have h4' : ((s[2].toNat : Int) != 58) = true := getD_ne (by omega) h4
    clear h4
    go_enter Tryd.func28, Tryd.ntmps28
    go_wp2_with fail
    go_ret2
    exact ⟨ret_int2 E1.out.symm E2.out.symm, rfl⟩
  have h4' : ((s[2].toNat : Int) != 58) = false := getD_eq (by omega) h4
  obtain ⟨q1, b1⟩ := dgn_lt (l := Txt.seg s 0 2) (by have := Txt.seg_len s 0 2; omega)
  obtain ⟨q2, b2⟩ := dgn_lt (l := Txt.seg s 3 5) (by have := Txt.seg_len s 3 5; omega)
  have h10 : 5 ≤ s.size ∧ s.size ≤ 5 := by omega
  by_cases hd : Txt.dgs (Txt.seg s 0 2) = true ∧ Txt.dgs (Txt.seg s 3 5) = true
  rotate_left
  · obtain ⟨e1, e2⟩ := Txt.m_bad (Txt.okc_not (fun h => hd h.2.2))
    have E1 := Lib.hid e1; have E2 := Lib.hid e2; clear e1 e2 h4
    by_cases d1 : Txt.dgs (Txt.seg s 0 2) = true
    · have d1' : ¬ Txt.dgn (Txt.seg s 0 2) < 0 := by rw [q1, d1]; simp
      have d2 : Txt.dgs (Txt.seg s 3 5) = false := by
        cases e : Txt.dgs (Txt.seg s 3 5)
        · rfl
        · exact absurd ⟨d1, e⟩ hd
      have d2' := q2.2 d2
      clear hd q1 q2 d1 d2
      go_enter Tryd.func28, Tryd.ntmps28
      go_wp2_with (go_at_call 58; (first | (with_reducible refine (rdigits_at s 0 2 0 2 _ (by omega) (by omega) (by omega) (by omega) (by omega) (by omega)).mono ?_) | (with_reducible refine (rdigits_at s 3 2 3 5 _ (by omega) (by omega) (by omega) (by omega) (by omega) (by omega)).mono ?_)); rintro e w' ⟨rfl, rfl⟩)
      go_ret2
      exact ⟨ret_int2 E1.out.symm E2.out.symm, rfl⟩
    · have d1' := q1.2 (by simpa using d1)
      clear hd q1 q2 d1
      go_enter Tryd.func28, Tryd.ntmps28
      go_wp2_with (go_at_call 58; (first | (with_reducible refine (rdigits_at s 0 2 0 2 _ (by omega) (by omega) (by omega) (by omega) (by omega) (by omega)).mono ?_) | (with_reducible refine (rdigits_at s 3 2 3 5 _ (by omega) (by omega) (by omega) (by omega) (by omega) (by omega)).mono ?_)); rintro e w' ⟨rfl, rfl⟩)
      go_ret2
      exact ⟨ret_int2 E1.out.symm E2.out.symm, rfl⟩
  obtain ⟨d1, d2⟩ := hd
  have hok : Txt.okc s = true := Txt.okc_iff.2 ⟨h0, h4, d1, d2⟩
  have v1 := Lib.hid (Txt.dgn_yes d1)
  have v2 := Lib.hid (Txt.dgn_yes d2)
  have d1' : ¬ Txt.dgn (Txt.seg s 0 2) < 0 := by rw [q1, d1]; simp
  have d2' : ¬ Txt.dgn (Txt.seg s 3 5) < 0 := by rw [q2, d2]; simp
  clear h4 q1 q2 d1 d2
  by_cases hh : 23 < Txt.dgn (Txt.seg s 0 2)
  · obtain ⟨e1, e2⟩ := Txt.m_time hok (by rw [v1.out] at hh; simp [Txt.tok]; omega)
    have E1 := Lib.hid e1; have E2 := Lib.hid e2; clear e1 e2 hok
    go_enter Tryd.func28, Tryd.ntmps28
    go_wp2_with (go_at_call 58; (first | (with_reducible refine (rdigits_at s 0 2 0 2 _ (by omega) (by omega) (by omega) (by omega) (by omega) (by omega)).mono ?_) | (with_reducible refine (rdigits_at s 3 2 3 5 _ (by omega) (by omega) (by omega) (by omega) (by omega) (by omega)).mono ?_)); rintro e w' ⟨rfl, rfl⟩)
    go_ret2
    exact ⟨ret_int2 E1.out.symm E2.out.symm, rfl⟩
  by_cases hm : 59 < Txt.dgn (Txt.seg s 3 5)
  · obtain ⟨e1, e2⟩ := Txt.m_time hok (by rw [v2.out] at hm; simp [Txt.tok]; omega)
    have E1 := Lib.hid e1; have E2 := Lib.hid e2; clear e1 e2 hok
    go_enter Tryd.func28, Tryd.ntmps28
    go_wp2_with (go_at_call 58; (first | (with_reducible refine (rdigits_at s 0 2 0 2 _ (by omega) (by omega) (by omega) (by omega) (by omega) (by omega)).mono ?_) | (with_reducible refine (rdigits_at s 3 2 3 5 _ (by omega) (by omega) (by omega) (by omega) (by omega) (by omega)).mono ?_)); rintro e w' ⟨rfl, rfl⟩)
    go_ret2
    exact ⟨ret_int2 E1.out.symm E2.out.symm, rfl⟩
  obtain ⟨e1, e2⟩ := Txt.m_ok hok (by rw [v1.out] at hh; rw [v2.out] at hm; simp [Txt.tok]; omega)
  have E1 := Lib.hid e1; have E2 := Lib.hid e2; clear e1 e2 hok
  go_enter Tryd.func28, Tryd.ntmps28
  go_wp2_with (go_at_call 58; (first | (with_reducible refine (rdigits_at s 0 2 0 2 _ (by omega) (by omega) (by omega) (by omega) (by omega) (by omega)).mono ?_) | (with_reducible refine (rdigits_at s 3 2 3 5 _ (by omega) (by omega) (by omega) (by omega) (by omega) (by omega)).mono ?_)); rintro e w' ⟨rfl, rfl⟩)
  go_ret2
  exact ⟨ret_int2 (by rw [E1.out, v1.out, v2.out]) E2.out.symm, rfl⟩
end Go.Proofs.YtfmdnmkojeolkaaDoor
