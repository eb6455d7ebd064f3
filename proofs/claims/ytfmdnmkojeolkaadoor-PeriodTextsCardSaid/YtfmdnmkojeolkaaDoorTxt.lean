/-
  Plain facts on the texts of days and minutes. No program in sight.
-/
import Derived.Test.YtfmdnmkojeolkaaDoorCal
namespace Go.Proofs.YtfmdnmkojeolkaaDoor.Txt
/-- The two digits of a number. -/
def tw (n : Int) : ByteArray := ⟨#[UInt8.ofNat (48 + n / 10).toNat, UInt8.ofNat (48 + n % 10).toNat]⟩
def dig (c : UInt8) : Bool := 48 ≤ c && c ≤ 57
def val (l : List UInt8) : Int := l.foldl (fun n c => 10 * n + ((c.toNat : Int) - 48)) 0
def dgs (l : List UInt8) : Bool := l.all dig
def dgv (l : List UInt8) : Int := if dgs l then val l else 0
def dgn (l : List UInt8) : Int := if dgs l then val l else -1
theorem dig_iff {c : UInt8} : dig c = true ↔ 48 ≤ (c.toNat : Int) ∧ (c.toNat : Int) ≤ 57 := by
  unfold dig; simp [UInt8.le_iff_toNat_le]; omega
theorem val_snoc (l : List UInt8) (c : UInt8) : val (l ++ [c]) = 10 * val l + ((c.toNat : Int) - 48) := by simp [val]
theorem dgs_snoc (l : List UInt8) (c : UInt8) : dgs (l ++ [c]) = (dgs l && dig c) := by simp [dgs]
theorem val_bd (l : List UInt8) (h : dgs l = true) : 0 ≤ val l ∧ val l < 10 ^ l.length := by
  suffices H : ∀ (l : List UInt8) (a : Int) (k : Nat), dgs l = true → 0 ≤ a → a < 10 ^ k → 0 ≤ l.foldl (fun n c => 10 * n + ((c.toNat : Int) - 48)) a ∧ l.foldl (fun n c => 10 * n + ((c.toNat : Int) - 48)) a < 10 ^ (k + l.length) by
    have := H l 0 0 h (by omega) (by simp)
    simpa [val] using this
  intro l
  induction l with
  | nil => intro a k _ h0 h1; exact ⟨h0, by simpa using h1⟩
  | cons c l ih =>
    intro a k h h0 h1
    simp only [dgs, List.all_cons, Bool.and_eq_true] at h
    obtain ⟨b1, b2⟩ := dig_iff.1 h.1
    have := ih (10 * a + ((c.toNat : Int) - 48)) (k + 1) h.2 (by omega) (by rw [Int.pow_succ]; omega)
    simp only [List.foldl_cons, List.length_cons]
    rw [show k + (l.length + 1) = k + 1 + l.length by omega]
    exact this
theorem val_le (l : List UInt8) (h : dgs l = true) (hl : l.length ≤ 8) : 0 ≤ val l ∧ val l < 100000000 := by
  have := val_bd l h
  have h2 : (10 : Int) ^ l.length ≤ 10 ^ 8 := by
    have := Nat.pow_le_pow_right (show 0 < 10 by omega) hl
    exact_mod_cast this
  exact ⟨this.1, by omega⟩
theorem dgv_bd (l : List UInt8) (hl : l.length ≤ 8) : 0 ≤ dgv l ∧ dgv l < 100000000 := by
  unfold dgv
  by_cases h : dgs l = true
  · rw [if_pos h]; exact val_le l h hl
  · rw [if_neg h]; omega
theorem dgs_not (l m : List UInt8) (c : UInt8) (h : dig c = false) (j : Nat) (hj : l.take j = m ++ [c]) : dgs l = false := by
  cases hd : dgs l
  · rfl
  · have h2 : dgs (m ++ [c]) = true := by
      rw [← hj]
      simp only [dgs, List.all_eq_true] at hd ⊢
      exact fun x hx => hd x (List.mem_of_mem_take hx)
    rw [dgs_snoc, h] at h2
    simp at h2
theorem dgv_not {l : List UInt8} (h : dgs l = false) : dgv l = 0 := by simp [dgv, h]
theorem dgv_yes {l : List UInt8} (h : dgs l = true) : dgv l = val l := by simp [dgv, h]
theorem dgn_not {l : List UInt8} (h : dgs l = false) : dgn l = -1 := by simp [dgn, h]
theorem dgn_yes {l : List UInt8} (h : dgs l = true) : dgn l = val l := by simp [dgn, h]
theorem dig_lo {c : UInt8} (h : (c.toNat : Int) < 48) : dig c = false := by
  cases hd : dig c
  · rfl
  · have := dig_iff.1 hd; omega
theorem dig_hi {c : UInt8} (h : 57 < (c.toNat : Int)) : dig c = false := by
  cases hd : dig c
  · rfl
  · have := dig_iff.1 hd; omega
theorem dig_out {c : UInt8} (h : (c.toNat : Int) < 48 ∨ 57 < (c.toNat : Int)) : dig c = false := by
  rcases h with h | h
  · exact dig_lo h
  · exact dig_hi h
theorem take_snoc (s : ByteArray) (k : Nat) (h : k < s.size) : s.data.toList.take (k + 1) = s.data.toList.take k ++ [s[k]] := by
  rw [List.take_succ_eq_append_getElem (by simpa using h)]; rfl
/-- The bytes of s from a to j. -/
def seg (s : ByteArray) (a j : Nat) : List UInt8 := (s.data.toList.take j).drop a
theorem seg_nil (s : ByteArray) (a : Nat) : seg s a a = [] := by unfold seg; simp
theorem seg_len (s : ByteArray) (a j : Nat) : (seg s a j).length ≤ j - a := by unfold seg; simp; omega
theorem seg_snoc (s : ByteArray) (a j : Nat) (h : j < s.size) (h' : a ≤ j) : seg s a (j + 1) = seg s a j ++ [s[j]] := by
  unfold seg
  rw [take_snoc s j h, List.drop_append_of_le_length]
  have hl : s.data.toList.length = s.size := by simp
  rw [List.length_take, hl]
  omega
theorem seg_take (s : ByteArray) (a j k : Nat) (h : j ≤ k) : (seg s a k).take (j - a) = seg s a j := by
  unfold seg
  rw [← List.drop_take, List.take_take, Nat.min_eq_left h]
theorem seg_extract (s : ByteArray) (a j : Nat) : (s.extract a j).data.toList = seg s a j := by
  unfold seg
  simp [List.drop_take]
theorem at_getD (s : ByteArray) (k : Nat) (h : k < s.size) : s.data.toList.getD k 0 = s[k] := by
  rw [List.getD_eq_getElem?_getD, List.getElem?_eq_getElem (by simpa using h)]
  rfl

/-! ### Dates -/
def dash : ByteArray := ⟨#[45]⟩
def colon : ByteArray := ⟨#[58]⟩
def print (n : Int) : ByteArray := if Cal.inR n then tw (Cal.Y n / 100) ++ tw (Cal.Y n % 100) ++ dash ++ tw (Cal.M n) ++ dash ++ tw (Cal.D n) else ByteArray.empty
def okf (s : ByteArray) : Bool := decide (s.size = 10 ∧ s.data.toList.getD 4 0 = 45 ∧ s.data.toList.getD 7 0 = 45 ∧ dgs (seg s 0 4) = true ∧ dgs (seg s 5 7) = true ∧ dgs (seg s 8 10) = true)
def pok (s : ByteArray) : Bool := Cal.vld (val (seg s 0 4)) (val (seg s 5 7)) (val (seg s 8 10))
def pv (s : ByteArray) : Int := if okf s then (if pok s then Cal.num (val (seg s 0 4)) (val (seg s 5 7)) (val (seg s 8 10)) else 0) else 0
def pe (s : ByteArray) : Int := if okf s then (if pok s then 0 else 12) else 3
theorem p_bad {s : ByteArray} (h : okf s = false) : pv s = 0 ∧ pe s = 3 := by simp [pv, pe, h]
theorem p_day {s : ByteArray} (h : okf s = true) (h' : pok s = false) : pv s = 0 ∧ pe s = 12 := by simp [pv, pe, h, h']
theorem p_ok {s : ByteArray} (h : okf s = true) (h' : pok s = true) : pv s = Cal.num (val (seg s 0 4)) (val (seg s 5 7)) (val (seg s 8 10)) ∧ pe s = 0 := by simp [pv, pe, h, h']
theorem okf_iff {s : ByteArray} : okf s = true ↔ s.size = 10 ∧ s.data.toList.getD 4 0 = 45 ∧ s.data.toList.getD 7 0 = 45 ∧ dgs (seg s 0 4) = true ∧ dgs (seg s 5 7) = true ∧ dgs (seg s 8 10) = true := by simp [okf]
theorem okf_not {s : ByteArray} (h : ¬ (s.size = 10 ∧ s.data.toList.getD 4 0 = 45 ∧ s.data.toList.getD 7 0 = 45 ∧ dgs (seg s 0 4) = true ∧ dgs (seg s 5 7) = true ∧ dgs (seg s 8 10) = true)) : okf s = false := by
  cases e : okf s
  · rfl
  · exact absurd (okf_iff.1 e) h
/-! ### Times of day -/
def clock (n : Int) : ByteArray := if decide (0 ≤ n ∧ n < 1440) then tw (n / 60) ++ colon ++ tw (n % 60) else ByteArray.empty
def okc (s : ByteArray) : Bool := decide (s.size = 5 ∧ s.data.toList.getD 2 0 = 58 ∧ dgs (seg s 0 2) = true ∧ dgs (seg s 3 5) = true)
def tok (s : ByteArray) : Bool := decide (val (seg s 0 2) ≤ 23 ∧ val (seg s 3 5) ≤ 59)
def mv (s : ByteArray) : Int := if okc s then (if tok s then 60 * val (seg s 0 2) + val (seg s 3 5) else 0) else 0
def me (s : ByteArray) : Int := if okc s then (if tok s then 0 else 13) else 3
theorem m_bad {s : ByteArray} (h : okc s = false) : mv s = 0 ∧ me s = 3 := by simp [mv, me, h]
theorem m_time {s : ByteArray} (h : okc s = true) (h' : tok s = false) : mv s = 0 ∧ me s = 13 := by simp [mv, me, h, h']
theorem m_ok {s : ByteArray} (h : okc s = true) (h' : tok s = true) : mv s = 60 * val (seg s 0 2) + val (seg s 3 5) ∧ me s = 0 := by simp [mv, me, h, h']
theorem okc_iff {s : ByteArray} : okc s = true ↔ s.size = 5 ∧ s.data.toList.getD 2 0 = 58 ∧ dgs (seg s 0 2) = true ∧ dgs (seg s 3 5) = true := by simp [okc]
theorem okc_not {s : ByteArray} (h : ¬ (s.size = 5 ∧ s.data.toList.getD 2 0 = 58 ∧ dgs (seg s 0 2) = true ∧ dgs (seg s 3 5) = true)) : okc s = false := by
  cases e : okc s
  · rfl
  · exact absurd (okc_iff.1 e) h
end Go.Proofs.YtfmdnmkojeolkaaDoor.Txt
