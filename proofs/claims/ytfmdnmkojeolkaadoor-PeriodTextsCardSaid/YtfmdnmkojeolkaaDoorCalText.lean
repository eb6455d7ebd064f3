/-
  The walks of the texts of layer 3 and of its reference: two digits, a number of digits.
-/
import Derived.Test.YtfmdnmkojeolkaaDoorCalDay
import Derived.Test.YtfmdnmkojeolkaaDoorCalDate
import Derived.Test.YtfmdnmkojeolkaaDoorTxt
import Derived.ShutString
namespace Go.Proofs.YtfmdnmkojeolkaaDoor
open Go.RowKit

/-- Two bytes in a new block, read as a string. -/
theorem conv2 (w : World) (src e : TypeId) (hs : Tryd.prog.underlying src = some (.slice e)) (he : Tryd.prog.underlying e = some (.int .u8)) (hd : Tryd.prog.underlying 9 = some .string) (x y : Int) :
    (convert src 9 (.slice (some ⟨w.heap.size, 0, none⟩) 2 2)).run Tryd.prog (w.alloc (.cells #[.int .u8 x, .int .u8 y] e)) = .ok (.string ⟨#[UInt8.ofNat x.toNat, UInt8.ofNat y.toNat]⟩) (w.alloc (.cells #[.int .u8 x, .int .u8 y] e)) := by
  rw [run_convert_bytes_string _ _ _ e _ _ _ hs he hd]
  have hl := run_loadCells_list (P := Tryd.prog) (w.alloc (.cells #[.int .u8 x, .int .u8 y] e)) ⟨w.heap.size, 0, none⟩ [.int .u8 x, .int .u8 y] (fun j v hj => by
    match j, hj with
    | 0, hj => simp at hj; subst hj; exact World.cell?_alloc_mark w _ e (0, 0) 0
    | 1, hj => simp at hj; subst hj; exact World.cell?_alloc_mark w _ e (0, 0) 1
    | j + 2, hj => simp at hj)
  rw [run_bytesToString _ _ 2 2 [x, y] hl]
  rfl

set_option maxHeartbeats 400000 in
theorem two_any (n : Int) (w : World) (h0 : 0 ≤ n) (h1 : n ≤ 99) :
    Calls Tryd.prog 56 #[.int .i64 n] w fun e w' => e = .returned (.string (Txt.tw n)) ∧ Below w.heap.size w w' := by
  have hc := conv2 w 73 5 Tryd.underlying73 Tryd.underlying5 Tryd.underlying9 (48 + n / 10) (48 + n % 10)
  go_enter Tryd.func56, Tryd.ntmps56
  go_wp2
  go_ret
  exact ⟨rfl, (Below.refl _ _).alloc (Nat.le_refl _) _⟩
set_option maxHeartbeats 400000 in
theorem rtwo_any (n : Int) (w : World) (h0 : 0 ≤ n) (h1 : n ≤ 99) :
    Calls Tryd.prog 59 #[.int .i64 n] w fun e w' => e = .returned (.string (Txt.tw n)) ∧ Below w.heap.size w w' := by
  have hc := conv2 w 73 5 Tryd.underlying73 Tryd.underlying5 Tryd.underlying9 (48 + n / 10) (48 + n % 10)
  go_enter Tryd.func59, Tryd.ntmps59
  go_wp2
  go_ret
  exact ⟨rfl, (Below.refl _ _).alloc (Nat.le_refl _) _⟩

theorem ret_ib {k : IntKind} {a b : Int} {x y : Bool} (h : a = b) (h' : x = y) : Ending.returned (.tuple #[.int k a, .bool x]) = .returned (.tuple #[.int k b, .bool y]) := by rw [h, h']
theorem digits_any (s : ByteArray) (w : World) (hs : s.size ≤ 8) :
    Calls Tryd.prog 57 #[.string s] w fun e w' => e = .returned (.tuple #[.int .i64 (Txt.dgv s.data.toList), .bool (Txt.dgs s.data.toList)]) ∧ w = w' := by
  go_enter Tryd.func57, Tryd.ntmps57
  go_wp2
  go_loop [4, 8] (fun n i => ∃ k : Nat, k ≤ s.size ∧ i = .int .i64 k ∧ n = .int .i64 (Txt.val (s.data.toList.take k)) ∧ Txt.dgs (s.data.toList.take k) = true) (fun _ i => s.size - (intOf i).toNat)
  case atStart => exact ⟨0, Nat.zero_le _, rfl, rfl, rfl⟩
  case round =>
    obtain ⟨k, hk, rfl, rfl, hd⟩ := hrel
    have hv := Txt.val_le (s.data.toList.take k) hd (by simp; omega)
    have HD := Lib.hid hd
    clear hd
    by_cases hlt : k < s.size
    · have hts := Lib.hid (Txt.take_snoc s k hlt)
      have h256 : (s[k].toNat : Int) < 256 := by have := s[k].toNat_lt; omega
      by_cases hlo : (s[k].toNat : Int) < 48
      · have HF := Lib.hid (Txt.dgs_not _ _ _ (Txt.dig_lo hlo) _ hts.out)
        go_wp2
        go_ret2
        exact ⟨ret_ib (Txt.dgv_not HF.out).symm HF.out.symm, rfl⟩
      by_cases hhi : 57 < (s[k].toNat : Int)
      · have HF := Lib.hid (Txt.dgs_not _ _ _ (Txt.dig_hi hhi) _ hts.out)
        go_wp2
        go_ret2
        exact ⟨ret_ib (Txt.dgv_not HF.out).symm HF.out.symm, rfl⟩
      have HF := Lib.hid (Txt.dig_iff.2 ⟨show 48 ≤ (s[k].toNat : Int) by omega, show (s[k].toNat : Int) ≤ 57 by omega⟩)
      go_wp2
      go_round
      case rel => exact ⟨k + 1, by omega, by go_num, by rw [hts.out, Txt.val_snoc], by rw [hts.out, Txt.dgs_snoc, HD.out, HF.out]; rfl⟩
      case measure => simp [intOf]; omega
    · have HT := Lib.hid (show s.data.toList.take k = s.data.toList from List.take_of_length_le (by simp; omega))
      go_wp2
      go_ret2
      have h1 := HD.out
      rw [HT.out] at h1
      exact ⟨ret_ib (by rw [Txt.dgv_yes h1, HT.out]) h1.symm, rfl⟩

theorem rdigits_any (s : ByteArray) (a n : Nat) (w : World) (hs : a + n ≤ s.size) (hn : n ≤ 8) (hz : s.size ≤ 1000) :
    Calls Tryd.prog 58 #[.string s, .int .i64 a, .int .i64 n] w fun e w' => e = .returned (.int .i64 (Txt.dgn (Txt.seg s a (a + n)))) ∧ w = w' := by
  go_enter Tryd.func58, Tryd.ntmps58
  go_wp2
  go_loop [7, 8] (fun x i => ∃ j : Nat, a ≤ j ∧ j ≤ a + n ∧ i = .int .i64 j ∧ x = .int .i64 (Txt.val (Txt.seg s a j)) ∧ Txt.dgs (Txt.seg s a j) = true) (fun _ i => a + n - (intOf i).toNat)
  case atStart => exact ⟨a, by omega, by omega, rfl, by rw [Txt.seg_nil]; rfl, by rw [Txt.seg_nil]; rfl⟩
  case round =>
    obtain ⟨j, hj, hk, rfl, rfl, hd⟩ := hrel
    have hl := Txt.seg_len s a j
    have hv := Txt.val_le (Txt.seg s a j) hd (by omega)
    have HD := Lib.hid hd
    clear hd hl
    by_cases hlt : j < a + n
    · have hlt' : j < s.size := by omega
      have hts := Lib.hid (Txt.seg_snoc s a j hlt' hj)
      have hjan : (j : Int) < (a : Int) + (n : Int) := by omega
      clear hlt
      go_wp2
      case roundEnd =>
        have HF := Txt.dig_iff.2 ⟨show 48 ≤ (s[j].toNat : Int) by omega, show (s[j].toNat : Int) ≤ 57 by omega⟩
        go_round
        case rel => exact ⟨j + 1, by omega, by omega, by go_num, by rw [hts.out, Txt.val_snoc], by rw [hts.out, Txt.dgs_snoc, HD.out, HF]; rfl⟩
        case measure => simp [intOf]; omega
      all_goals
        have hdig : Txt.dig s[j] = false := Txt.dig_out (by omega)
        have HF := Txt.dgs_not (Txt.seg s a (a + n)) _ _ hdig (j + 1 - a) (by rw [Txt.seg_take s a (j + 1) (a + n) (by omega)]; exact hts.out)
        go_ret
        exact ⟨ret_int (Txt.dgn_not HF).symm, rfl⟩
    · obtain rfl : j = a + n := by omega
      go_wp2
      go_ret
      exact ⟨ret_int (Txt.dgn_yes HD.out).symm, rfl⟩
/-- The digits of a part of a string. -/
theorem digits_at (s : ByteArray) (a j : Nat) (w : World) (h : j ≤ a + 8) :
    Calls Tryd.prog 57 #[.string (s.extract a j)] w fun e w' => e = .returned (.tuple #[.int .i64 (Txt.dgv (Txt.seg s a j)), .bool (Txt.dgs (Txt.seg s a j))]) ∧ w = w' := by
  have := digits_any (s.extract a j) w (by
    have e1 := Txt.seg_extract s a j
    have e2 := Txt.seg_len s a j
    rw [← e1] at e2
    simp only [Array.length_toList, ByteArray.size_data] at e2
    omega)
  rw [Txt.seg_extract] at this
  exact this
end Go.Proofs.YtfmdnmkojeolkaaDoor
