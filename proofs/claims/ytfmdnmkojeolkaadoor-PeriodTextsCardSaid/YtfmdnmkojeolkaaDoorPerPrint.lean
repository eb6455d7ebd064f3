/-
  Print of layer 4.
-/
import Derived.Test.YtfmdnmkojeolkaaDoorPerAdd
namespace Go.Proofs.YtfmdnmkojeolkaaDoor
open Go.RowKit Go.Shelf

/-- The digits of the weekdays below the k-th one. -/
def wdTo (d : Int) : Nat → ByteArray
  | 0 => ByteArray.empty
  | k + 1 => if d / 2 ^ k % 2 = 1 then wdTo d k ++ ⟨#[UInt8.ofNat (49 + k)]⟩ else wdTo d k
def slash : ByteArray := ⟨#[47]⟩
def pprint (p : Per.P) : ByteArray := if Per.chk p = 0 then Txt.print p.f ++ slash ++ Txt.print p.t ++ slash ++ wdTo p.d 7 else ByteArray.empty

theorem wdTo_size (d : Int) (k : Nat) : (wdTo d k).size ≤ k := by
  induction k with
  | zero => exact Nat.le_refl 0
  | succ k ih =>
    unfold wdTo
    split
    · rw [ByteArray.size_append]
      have : (⟨#[UInt8.ofNat (49 + k)]⟩ : ByteArray).size = 1 := rfl
      omega
    · omega

theorem enc0 : Utf8.encode ((((⟨#[49, 50, 51, 52, 53, 54, 55]⟩ : ByteArray)[0]'(by decide)).toNat : Nat) : Int) = ⟨#[UInt8.ofNat (49 + 0)]⟩ := by kernel_rfl
theorem enc1 : Utf8.encode ((((⟨#[49, 50, 51, 52, 53, 54, 55]⟩ : ByteArray)[1]'(by decide)).toNat : Nat) : Int) = ⟨#[UInt8.ofNat (49 + 1)]⟩ := by kernel_rfl
theorem enc2 : Utf8.encode ((((⟨#[49, 50, 51, 52, 53, 54, 55]⟩ : ByteArray)[2]'(by decide)).toNat : Nat) : Int) = ⟨#[UInt8.ofNat (49 + 2)]⟩ := by kernel_rfl
theorem enc3 : Utf8.encode ((((⟨#[49, 50, 51, 52, 53, 54, 55]⟩ : ByteArray)[3]'(by decide)).toNat : Nat) : Int) = ⟨#[UInt8.ofNat (49 + 3)]⟩ := by kernel_rfl
theorem enc4 : Utf8.encode ((((⟨#[49, 50, 51, 52, 53, 54, 55]⟩ : ByteArray)[4]'(by decide)).toNat : Nat) : Int) = ⟨#[UInt8.ofNat (49 + 4)]⟩ := by kernel_rfl
theorem enc5 : Utf8.encode ((((⟨#[49, 50, 51, 52, 53, 54, 55]⟩ : ByteArray)[5]'(by decide)).toNat : Nat) : Int) = ⟨#[UInt8.ofNat (49 + 5)]⟩ := by kernel_rfl
theorem enc6 : Utf8.encode ((((⟨#[49, 50, 51, 52, 53, 54, 55]⟩ : ByteArray)[6]'(by decide)).toNat : Nat) : Int) = ⟨#[UInt8.ofNat (49 + 6)]⟩ := by kernel_rfl
theorem big_no {a : Nat} {s : ByteArray} (h : a ≤ 9) (he : s.size = 1) (hb : 9223372036854775807 < a + s.size) : False := by omega

theorem print_size (n : Int) : (Txt.print n).size ≤ 10 := by
  unfold Txt.print
  split
  · simp only [ByteArray.size_append]
    have h (k : Int) : (Txt.tw k).size = 2 := rfl
    have hd : Txt.dash.size = 1 := rfl
    simp only [h, hd]
    omega
  · decide

set_option maxHeartbeats 1000000 in
theorem PPrint_any (p : Per.P) (w : World) (hl : HasLen w) :
    Calls Tryd.prog 51 #[pv p] w fun e w' => e = .returned (.string (pprint p)) ∧ Below w.heap.size w w' := by
  have hP := Box3.new w 37 (.int .i64 p.f) (.int .i64 p.t) (.int .i64 p.d)
  have hB0 := (Below.refl w.heap.size w).alloc (Nat.le_refl _) (.cells #[.int .i64 p.f, .int .i64 p.t, .int .i64 p.d] 37)
  have hz : (w.alloc (.cells #[.int .i64 p.f, .int .i64 p.t, .int .i64 p.d] 37)).heap.size = w.heap.size + 1 := by simp
  go_enter Tryd.func51, Tryd.ntmps51
  go_wp2_with fail
  generalize w.alloc (.cells #[.int .i64 p.f, .int .i64 p.t, .int .i64 p.d] 37) = w2 at *
  refine (Check_any p _).mono ?_
  rintro e w3 ⟨rfl, hb3⟩
  have hP3 := hP.below hb3 (by omega)
  have hB3 := hB0.trans (hb3.mono (by omega))
  have hz3 := hb3.size
  clear hP hb3
  by_cases h0 : Per.chk p = 0
  rotate_left
  · have E := Lib.hid (show pprint p = ByteArray.empty by simp [pprint, h0])
    have h0' : (Per.chk p != 0) = true := by simpa using h0
    clear h0
    go_wp2_with fail
    go_ret
    exact ⟨ret_str E.out.symm, hB3⟩
  have E := Lib.hid (show pprint p = Txt.print p.f ++ slash ++ Txt.print p.t ++ slash ++ wdTo p.d 7 by simp [pprint, h0])
  obtain ⟨g1, g2, g3, g4, g5, g6⟩ := Per.chk_ok.1 h0
  have h0' : (Per.chk p != 0) = false := by simpa using h0
  have ha0 := hP3.c0; have ha1 := hP3.c1; have ha2 := hP3.c2
  clear h0
  go_wp2_with fail
  go_loop [3, 8] (fun ds i => ∃ k : Nat, k ≤ 7 ∧ i = .int .i64 k ∧ ds = .string (wdTo p.d k)) (fun _ i => (7 - intOf i).toNat)
  case atStart => exact ⟨0, by omega, rfl, rfl⟩
  case round =>
    obtain ⟨k, hk, rfl, rfl⟩ := hrel
    by_cases hlt : k < 7
    · have hq := pow_bd (show k ≤ 6 by omega)
      have hq0 : 0 ≤ p.d / 2 ^ k := Int.ediv_nonneg (by omega) (by omega)
      have hq1 : p.d / 2 ^ k ≤ p.d := Int.ediv_le_self _ (by omega)
      have he := i64_and1 (p.d / 2 ^ k) hq0 (by omega)
      have hstep : wdTo p.d (k + 1) = if p.d / 2 ^ k % 2 = 1 then wdTo p.d k ++ ⟨#[UInt8.ofNat (49 + k)]⟩ else wdTo p.d k := rfl
      have hks : k = 0 ∨ k = 1 ∨ k = 2 ∨ k = 3 ∨ k = 4 ∨ k = 5 ∨ k = 6 := by omega
      by_cases hm : p.d / 2 ^ k % 2 = 1
      · rw [if_pos hm] at hstep
        have S := Lib.hid hstep
        have hbit : (bits .and .i64 (p.d / 2 ^ k) 1 == 1) = true := by rw [he]; simpa using hm
        have hsz := wdTo_size p.d k
        clear hstep he hm hq hq0 hq1
        rcases hks with rfl | rfl | rfl | rfl | rfl | rfl | rfl
        all_goals
          simp only [Int.reducePow, Int.pow_zero, Int.ediv_one] at hbit
          go_wp2_with fail
          all_goals first
            | (exfalso; simp only [enc0, enc1, enc2, enc3, enc4, enc5, enc6] at *; exact big_no (Nat.le_trans hsz (by decide)) rfl (by assumption))
            | (go_round
               case rel => simp only [enc0, enc1, enc2, enc3, enc4, enc5, enc6]; exact ⟨_, by decide, rfl, congrArg Value.string S.out.symm⟩
               case measure => simp [intOf])
      · rw [if_neg hm] at hstep
        have S := Lib.hid hstep
        have hbit : (bits .and .i64 (p.d / 2 ^ k) 1 == 1) = false := by rw [he]; simpa using hm
        clear hstep he hm hq hq0 hq1
        rcases hks with rfl | rfl | rfl | rfl | rfl | rfl | rfl
        all_goals
          simp only [Int.reducePow, Int.pow_zero, Int.ediv_one] at hbit
          go_wp2_with fail
          go_round
          case rel => exact ⟨_, by decide, rfl, congrArg Value.string S.out.symm⟩
          case measure => simp [intOf]
    · have E7 : k = 7 := by omega
      subst E7
      have hf : Cal.inR p.f = true := by simp [Cal.inR]; omega
      have ht : Cal.inR p.t = true := by simp [Cal.inR]; omega
      have hlB := hl.below hB3
      have hsl : w.heap.size < w3.heap.size := by omega
      have hd0 : w3.drew.cell? ⟨w.heap.size, 0, none⟩ = _ := ha0
      have hd1 : w3.drew.cell? ⟨w.heap.size, 1, none⟩ = _ := ha1
      have hBd : Below w.heap.size w w3.drew := hB3.trans ((Below.refl _ _).drew)
      have hld : HasLen w3.drew := hlB
      have hsd : w.heap.size < w3.drew.heap.size := hsl
      have hn1 : ¬ 9223372036854775807 < (Txt.print p.f).size + 1 := by have := print_size p.f; omega
      have hn2 : ¬ 9223372036854775807 < (Txt.print p.f).size + 1 + (Txt.print p.t).size := by have := print_size p.f; have := print_size p.t; omega
      have hn3 : ¬ 9223372036854775807 < (Txt.print p.f).size + 1 + (Txt.print p.t).size + 1 := by have := print_size p.f; have := print_size p.t; omega
      have hn4 : ¬ 9223372036854775807 < (Txt.print p.f).size + 1 + (Txt.print p.t).size + 1 + (wdTo p.d 7).size := by have := print_size p.f; have := print_size p.t; have := wdTo_size p.d 7; omega
      clear hP3
      go_wp2_with fail
      go_region_with (go_at_call 22; refine (Print_yes _ _ (by assumption) (by assumption)).mono ?_; rintro e w4 ⟨rfl, hb4⟩; have hl4 := HasLen.below (by assumption) hb4; have hB4 := Below.trans (by assumption : Below w.heap.size w _) (hb4.mono (Nat.le_of_lt (by assumption))); have hc0 := (hb4.cell (p := ⟨w.heap.size, 0, none⟩) (by assumption)).trans (by assumption); have hc1 := (hb4.cell (p := ⟨w.heap.size, 1, none⟩) (by assumption)).trans (by assumption); have hs4 := Nat.lt_of_lt_of_le (by assumption) hb4.size)
      all_goals
        clear hd0 hd1 hBd hld hsd
        go_wp2_with fail
        go_ret
        exact ⟨ret_str E.out.symm, by assumption⟩
end Go.Proofs.YtfmdnmkojeolkaaDoor
