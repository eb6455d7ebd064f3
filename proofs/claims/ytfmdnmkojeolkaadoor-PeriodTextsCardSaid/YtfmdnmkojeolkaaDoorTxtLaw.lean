/-
  Plain laws of the texts of days and minutes: what is printed is read as it was, and what is read is the printed text. No program in sight.
-/
import Derived.Test.YtfmdnmkojeolkaaDoorTxt
namespace Go.Proofs.YtfmdnmkojeolkaaDoor.Txt

/-- The byte of a digit. -/
def by1 (k : Int) : UInt8 := UInt8.ofNat (48 + k).toNat
theorem by1_nat {k : Int} (h : 0 ≤ k) (h' : k ≤ 9) : ((by1 k).toNat : Int) = 48 + k := by
  unfold by1
  rw [UInt8.toNat_ofNat']
  omega
theorem by1_dig {k : Int} (h : 0 ≤ k) (h' : k ≤ 9) : dig (by1 k) = true := dig_iff.2 (by rw [by1_nat h h']; omega)
theorem by1_of {c : UInt8} (h : dig c = true) : by1 ((c.toNat : Int) - 48) = c := by
  obtain ⟨a, b⟩ := dig_iff.1 h
  apply UInt8.toNat_inj.1
  have := @by1_nat ((c.toNat : Int) - 48) (by omega) (by omega)
  omega
theorem tw_eq (n : Int) : tw n = ⟨#[by1 (n / 10), by1 (n % 10)]⟩ := rfl
theorem val1 (a : UInt8) : val [a] = (a.toNat : Int) - 48 := by simp [val]
theorem val2 (a b : UInt8) : val [a, b] = 10 * ((a.toNat : Int) - 48) + ((b.toNat : Int) - 48) := by simp [val]
theorem val4 (a b c d : UInt8) : val [a, b, c, d] = 1000 * ((a.toNat : Int) - 48) + 100 * ((b.toNat : Int) - 48) + 10 * ((c.toNat : Int) - 48) + ((d.toNat : Int) - 48) := by simp [val]; omega

theorem ba_ext {a b : ByteArray} (h : a.data.toList = b.data.toList) : a = b := by
  obtain ⟨⟨la⟩⟩ := a; obtain ⟨⟨lb⟩⟩ := b
  simp at h; subst h; rfl

theorem print_list {n : Int} (h : Cal.inR n = true) : (print n).data.toList = [by1 (Cal.Y n / 100 / 10), by1 (Cal.Y n / 100 % 10), by1 (Cal.Y n % 100 / 10), by1 (Cal.Y n % 100 % 10), 45, by1 (Cal.M n / 10), by1 (Cal.M n % 10), 45, by1 (Cal.D n / 10), by1 (Cal.D n % 10)] := by
  unfold print
  rw [if_pos h]
  simp [tw_eq, dash, ByteArray.data_append]
theorem size_list (s : ByteArray) : s.size = s.data.toList.length := by simp

theorem print_parse {n : Int} (h : Cal.inR n = true) : pv (print n) = n ∧ pe (print n) = 0 := by
  have hl := print_list h
  have hr : 0 ≤ n ∧ n < 36525 := by simpa [Cal.inR] using h
  obtain ⟨hv, he⟩ := Cal.has n hr.1 hr.2
  obtain ⟨a, b, c, d, f, g⟩ := Cal.vld_iff.1 hv
  have hd := Cal.dim_bd (Cal.Y n) (Cal.M n)
  have s1 : seg (print n) 0 4 = [by1 (Cal.Y n / 100 / 10), by1 (Cal.Y n / 100 % 10), by1 (Cal.Y n % 100 / 10), by1 (Cal.Y n % 100 % 10)] := by unfold seg; rw [hl]; rfl
  have s2 : seg (print n) 5 7 = [by1 (Cal.M n / 10), by1 (Cal.M n % 10)] := by unfold seg; rw [hl]; rfl
  have s3 : seg (print n) 8 10 = [by1 (Cal.D n / 10), by1 (Cal.D n % 10)] := by unfold seg; rw [hl]; rfl
  have v1 : val (seg (print n) 0 4) = Cal.Y n := by
    rw [s1, val4, by1_nat (by omega) (by omega), by1_nat (by omega) (by omega), by1_nat (by omega) (by omega), by1_nat (by omega) (by omega)]; omega
  have v2 : val (seg (print n) 5 7) = Cal.M n := by
    rw [s2, val2, by1_nat (by omega) (by omega), by1_nat (by omega) (by omega)]; omega
  have v3 : val (seg (print n) 8 10) = Cal.D n := by
    rw [s3, val2, by1_nat (by omega) (by omega), by1_nat (by omega) (by omega)]; omega
  have ok : okf (print n) = true := by
    refine okf_iff.2 ⟨?_, ?_, ?_, ?_, ?_, ?_⟩
    · rw [size_list, hl]; rfl
    · rw [hl]; rfl
    · rw [hl]; rfl
    · rw [s1]; simp only [dgs, List.all_cons, List.all_nil, Bool.and_true, Bool.and_eq_true]
      exact ⟨by1_dig (by omega) (by omega), by1_dig (by omega) (by omega), by1_dig (by omega) (by omega), by1_dig (by omega) (by omega)⟩
    · rw [s2]; simp only [dgs, List.all_cons, List.all_nil, Bool.and_true, Bool.and_eq_true]
      exact ⟨by1_dig (by omega) (by omega), by1_dig (by omega) (by omega)⟩
    · rw [s3]; simp only [dgs, List.all_cons, List.all_nil, Bool.and_true, Bool.and_eq_true]
      exact ⟨by1_dig (by omega) (by omega), by1_dig (by omega) (by omega)⟩
  have pk : pok (print n) = true := by unfold pok; rw [v1, v2, v3]; exact hv
  obtain ⟨e1, e2⟩ := p_ok ok pk
  rw [e1, v1, v2, v3]
  exact ⟨he, e2⟩

theorem parse_print {s : ByteArray} (h : pe s = 0) : Cal.inR (pv s) = true ∧ print (pv s) = s := by
  have ok : okf s = true := by
    cases e : okf s
    · have := (p_bad e).2; omega
    · rfl
  have pk : pok s = true := by
    cases e : pok s
    · have := (p_day ok e).2; omega
    · rfl
  obtain ⟨e1, -⟩ := p_ok ok pk
  obtain ⟨h0, h4, h7, d1, d2, d3⟩ := okf_iff.1 ok
  have hv : Cal.vld (val (seg s 0 4)) (val (seg s 5 7)) (val (seg s 8 10)) = true := pk
  obtain ⟨y1, y2, y3⟩ := Cal.date_of hv rfl
  have hb := Cal.num_bd hv
  have hr : Cal.inR (pv s) = true := by rw [e1]; simpa [Cal.inR] using hb
  refine ⟨hr, ba_ext ?_⟩
  rw [print_list hr, e1, y1, y2, y3]
  clear y1 y2 y3 hb hr e1 hv pk ok
  rw [size_list] at h0
  unfold seg at d1 d2 d3 ⊢
  generalize s.data.toList = l at *
  match l, h0 with
  | [c0, c1, c2, c3, c4, c5, c6, c7, c8, c9], _ =>
    simp only [List.getD_cons_succ, List.getD_cons_zero] at h4 h7
    subst h4 h7
    simp only [List.take_succ_cons, List.take_zero, List.drop_succ_cons, List.drop_zero, dgs, List.all_cons, List.all_nil, Bool.and_true, Bool.and_eq_true] at d1 d2 d3
    obtain ⟨q0, q1, q2, q3⟩ := d1
    obtain ⟨q5, q6⟩ := d2
    obtain ⟨q8, q9⟩ := d3
    simp only [List.take_succ_cons, List.take_zero, List.drop_succ_cons, List.drop_zero, val4, val2]
    have b0 := dig_iff.1 q0; have b1 := dig_iff.1 q1; have b2 := dig_iff.1 q2; have b3 := dig_iff.1 q3
    have b5 := dig_iff.1 q5; have b6 := dig_iff.1 q6; have b8 := dig_iff.1 q8; have b9 := dig_iff.1 q9
    rw [show (1000 * ((c0.toNat : Int) - 48) + 100 * ((c1.toNat : Int) - 48) + 10 * ((c2.toNat : Int) - 48) + ((c3.toNat : Int) - 48)) / 100 / 10 = (c0.toNat : Int) - 48 by omega,
      show (1000 * ((c0.toNat : Int) - 48) + 100 * ((c1.toNat : Int) - 48) + 10 * ((c2.toNat : Int) - 48) + ((c3.toNat : Int) - 48)) / 100 % 10 = (c1.toNat : Int) - 48 by omega,
      show (1000 * ((c0.toNat : Int) - 48) + 100 * ((c1.toNat : Int) - 48) + 10 * ((c2.toNat : Int) - 48) + ((c3.toNat : Int) - 48)) % 100 / 10 = (c2.toNat : Int) - 48 by omega,
      show (1000 * ((c0.toNat : Int) - 48) + 100 * ((c1.toNat : Int) - 48) + 10 * ((c2.toNat : Int) - 48) + ((c3.toNat : Int) - 48)) % 100 % 10 = (c3.toNat : Int) - 48 by omega,
      show (10 * ((c5.toNat : Int) - 48) + ((c6.toNat : Int) - 48)) / 10 = (c5.toNat : Int) - 48 by omega,
      show (10 * ((c5.toNat : Int) - 48) + ((c6.toNat : Int) - 48)) % 10 = (c6.toNat : Int) - 48 by omega,
      show (10 * ((c8.toNat : Int) - 48) + ((c9.toNat : Int) - 48)) / 10 = (c8.toNat : Int) - 48 by omega,
      show (10 * ((c8.toNat : Int) - 48) + ((c9.toNat : Int) - 48)) % 10 = (c9.toNat : Int) - 48 by omega]
    rw [by1_of q0, by1_of q1, by1_of q2, by1_of q3, by1_of q5, by1_of q6, by1_of q8, by1_of q9]
theorem print_out {n : Int} (h : Cal.inR n = false) : print n = ByteArray.empty := by simp [print, h]
theorem pe_cases (s : ByteArray) : pe s = 0 ∨ pe s = 3 ∨ pe s = 12 := by
  unfold pe; split
  · split
    · exact .inl rfl
    · exact .inr (.inr rfl)
  · exact .inr (.inl rfl)
theorem pe_empty : pe ByteArray.empty = 3 := by decide +kernel
theorem pv_empty : pv ByteArray.empty = 0 := by decide +kernel
theorem print_ne {n : Int} (h : Cal.inR n = true) : (print n).data.toList ≠ [] := by rw [print_list h]; simp

/-! ### Times of day -/
theorem clock_list {n : Int} (h0 : 0 ≤ n) (h1 : n < 1440) : (clock n).data.toList = [by1 (n / 60 / 10), by1 (n / 60 % 10), 58, by1 (n % 60 / 10), by1 (n % 60 % 10)] := by
  unfold clock
  rw [if_pos (by simp; omega)]
  simp [tw_eq, colon, ByteArray.data_append]
theorem clock_min {n : Int} (h0 : 0 ≤ n) (h1 : n < 1440) : mv (clock n) = n ∧ me (clock n) = 0 := by
  have hl := clock_list h0 h1
  have s1 : seg (clock n) 0 2 = [by1 (n / 60 / 10), by1 (n / 60 % 10)] := by unfold seg; rw [hl]; rfl
  have s2 : seg (clock n) 3 5 = [by1 (n % 60 / 10), by1 (n % 60 % 10)] := by unfold seg; rw [hl]; rfl
  have v1 : val (seg (clock n) 0 2) = n / 60 := by
    rw [s1, val2, by1_nat (by omega) (by omega), by1_nat (by omega) (by omega)]; omega
  have v2 : val (seg (clock n) 3 5) = n % 60 := by
    rw [s2, val2, by1_nat (by omega) (by omega), by1_nat (by omega) (by omega)]; omega
  have ok : okc (clock n) = true := by
    refine okc_iff.2 ⟨?_, ?_, ?_, ?_⟩
    · rw [size_list, hl]; rfl
    · rw [hl]; rfl
    · rw [s1]; simp only [dgs, List.all_cons, List.all_nil, Bool.and_true, Bool.and_eq_true]
      exact ⟨by1_dig (by omega) (by omega), by1_dig (by omega) (by omega)⟩
    · rw [s2]; simp only [dgs, List.all_cons, List.all_nil, Bool.and_true, Bool.and_eq_true]
      exact ⟨by1_dig (by omega) (by omega), by1_dig (by omega) (by omega)⟩
  have tk : tok (clock n) = true := by unfold tok; rw [v1, v2]; simp; omega
  obtain ⟨e1, e2⟩ := m_ok ok tk
  rw [e1, v1, v2]
  exact ⟨by omega, e2⟩
theorem min_clock {s : ByteArray} (h : me s = 0) : 0 ≤ mv s ∧ mv s < 1440 ∧ clock (mv s) = s := by
  have ok : okc s = true := by
    cases e : okc s
    · have := (m_bad e).2; omega
    · rfl
  have tk : tok s = true := by
    cases e : tok s
    · have := (m_time ok e).2; omega
    · rfl
  obtain ⟨e1, -⟩ := m_ok ok tk
  obtain ⟨h0, h2, d1, d2⟩ := okc_iff.1 ok
  have ht : val (seg s 0 2) ≤ 23 ∧ val (seg s 3 5) ≤ 59 := by simpa [tok] using tk
  have b1 := val_le (seg s 0 2) d1 (by have := seg_len s 0 2; omega)
  have b2 := val_le (seg s 3 5) d2 (by have := seg_len s 3 5; omega)
  refine ⟨by omega, by omega, ba_ext ?_⟩
  rw [clock_list (by omega) (by omega), e1]
  clear e1 ok tk b1 b2
  rw [size_list] at h0
  unfold seg at d1 d2 ht ⊢
  generalize s.data.toList = l at *
  match l, h0 with
  | [c0, c1, c2, c3, c4], _ =>
    simp only [List.getD_cons_succ, List.getD_cons_zero] at h2
    subst h2
    simp only [List.take_succ_cons, List.take_zero, List.drop_succ_cons, List.drop_zero, dgs, List.all_cons, List.all_nil, Bool.and_true, Bool.and_eq_true] at d1 d2
    obtain ⟨q0, q1⟩ := d1
    obtain ⟨q3, q4⟩ := d2
    simp only [List.take_succ_cons, List.take_zero, List.drop_succ_cons, List.drop_zero, val2] at ht ⊢
    have b0 := dig_iff.1 q0; have b1 := dig_iff.1 q1; have b3 := dig_iff.1 q3; have b4 := dig_iff.1 q4
    rw [show (60 * (10 * ((c0.toNat : Int) - 48) + ((c1.toNat : Int) - 48)) + (10 * ((c3.toNat : Int) - 48) + ((c4.toNat : Int) - 48))) / 60 / 10 = (c0.toNat : Int) - 48 by omega,
      show (60 * (10 * ((c0.toNat : Int) - 48) + ((c1.toNat : Int) - 48)) + (10 * ((c3.toNat : Int) - 48) + ((c4.toNat : Int) - 48))) / 60 % 10 = (c1.toNat : Int) - 48 by omega,
      show (60 * (10 * ((c0.toNat : Int) - 48) + ((c1.toNat : Int) - 48)) + (10 * ((c3.toNat : Int) - 48) + ((c4.toNat : Int) - 48))) % 60 / 10 = (c3.toNat : Int) - 48 by omega,
      show (60 * (10 * ((c0.toNat : Int) - 48) + ((c1.toNat : Int) - 48)) + (10 * ((c3.toNat : Int) - 48) + ((c4.toNat : Int) - 48))) % 60 % 10 = (c4.toNat : Int) - 48 by omega]
    rw [by1_of q0, by1_of q1, by1_of q3, by1_of q4]
theorem clock_out {n : Int} (h : ¬ (0 ≤ n ∧ n < 1440)) : clock n = ByteArray.empty := by unfold clock; rw [if_neg (by simpa using h)]
theorem me_cases (s : ByteArray) : me s = 0 ∨ me s = 3 ∨ me s = 13 := by
  unfold me; split
  · split
    · exact .inl rfl
    · exact .inr (.inr rfl)
  · exact .inr (.inl rfl)
theorem me_empty : me ByteArray.empty = 3 := by decide +kernel
theorem mv_empty : mv ByteArray.empty = 0 := by decide +kernel
theorem clock_ne {n : Int} (h0 : 0 ≤ n) (h1 : n < 1440) : (clock n).data.toList ≠ [] := by rw [clock_list h0 h1]; simp
end Go.Proofs.YtfmdnmkojeolkaaDoor.Txt
