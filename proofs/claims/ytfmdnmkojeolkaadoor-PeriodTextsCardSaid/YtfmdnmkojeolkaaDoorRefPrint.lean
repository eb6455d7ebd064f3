/-
  Print of layer 4's reference.
-/
import Derived.Test.YtfmdnmkojeolkaaDoorRefDays
import Derived.Test.YtfmdnmkojeolkaaDoorPerPrint
import Derived.Test.YtfmdnmkojeolkaaDoorPerHas
namespace Go.Proofs.YtfmdnmkojeolkaaDoor
open Go.RowKit Go.Shelf

set_option maxHeartbeats 1000000 in
theorem rdig_any (n : Int) (w : World) (h0 : 1 ≤ n) (h1 : n ≤ 7) :
    Calls Tryd.prog 73 #[.int .u64 n] w fun e w' => e = .returned (.string ⟨#[UInt8.ofNat (48 + n).toNat]⟩) ∧ w = w' := by
  have h : n = 1 ∨ n = 2 ∨ n = 3 ∨ n = 4 ∨ n = 5 ∨ n = 6 ∨ n = 7 := by omega
  rcases h with rfl | rfl | rfl | rfl | rfl | rfl | rfl
  all_goals
    clear h0 h1
    go_enter Tryd.func73, Tryd.ntmps73
    go_wp2_with fail
    go_ret
    exact ⟨rfl, rfl⟩
theorem dec_any (n : Int) (w : World) (h0 : 1 ≤ n) (h1 : n ≤ 7) :
    Calls Tryd.prog 70 #[.int .i64 n] w fun e w' => e = .returned (.string ⟨#[UInt8.ofNat (48 + n).toNat]⟩) ∧ w = w' := by
  go_enter Tryd.func70, Tryd.ntmps70
  go_wp2_with fail
  refine (rdig_any _ _ (by omega) (by omega)).mono ?_
  rintro e w' ⟨rfl, rfl⟩
  go_wp2_with fail
  go_ret
  exact ⟨rfl, rfl⟩

theorem half_step (d : Int) (k : Nat) : d / 2 ^ k / 2 = d / 2 ^ (k + 1) := by
  rw [Int.pow_succ, Int.ediv_ediv_of_nonneg (Int.le_of_lt (Int.pow_pos (by omega)))]

set_option maxHeartbeats 1000000 in
theorem rPPrint_any (p : Per.P) (w : World) :
    Calls Tryd.prog 52 #[pv p] w fun e w' => e = .returned (.string (pprint p)) ∧ Below w.heap.size w w' := by
  have hP := Box3.new w 37 (.int .i64 p.f) (.int .i64 p.t) (.int .i64 p.d)
  have hB0 := (Below.refl w.heap.size w).alloc (Nat.le_refl _) (.cells #[.int .i64 p.f, .int .i64 p.t, .int .i64 p.d] 37)
  have hz : (w.alloc (.cells #[.int .i64 p.f, .int .i64 p.t, .int .i64 p.d] 37)).heap.size = w.heap.size + 1 := by simp
  have hc0 := hP.c0; have hc1 := hP.c1; have hc2 := hP.c2
  go_enter Tryd.func52, Tryd.ntmps52
  go_wp2_with fail
  generalize w.alloc (.cells #[.int .i64 p.f, .int .i64 p.t, .int .i64 p.d] 37) = w2 at *
  refine (rCheck_any p _).mono ?_
  rintro e w3 ⟨rfl, hb3⟩
  have hP3 := hP.below hb3 (by omega)
  have hB3 := hB0.trans (hb3.mono (by omega))
  have hz3 := hb3.size
  clear hP hb3 hc0 hc1 hc2
  by_cases h0 : Per.chk p = 0
  rotate_left
  · have E := Lib.hid (show pprint p = ByteArray.empty by simp [pprint, h0])
    have h0' : (Per.chk p != 0) = true := by simpa using h0
    clear h0
    go_wp2_with fail
    go_ret
    exact ⟨ret_str E.out.symm, hB3⟩
  have E := Lib.hid (show pprint p = Txt.print p.f ++ slash ++ Txt.print p.t ++ slash ++ wdTo p.d 7 by simp [pprint, h0])
  obtain ⟨g1, g2, g3, g4, g5, g6⟩ := Per.chk_ok.1 h0
  have h0' : (Per.chk p != 0) = false := by simpa using h0
  have hf : Cal.inR p.f = true := by simp [Cal.inR]; omega
  have ht : Cal.inR p.t = true := by simp [Cal.inR]; omega
  have hS : (w3.cell? ⟨w.heap.size, 0, none⟩ = some (.int .i64 p.f) ∧ w3.cell? ⟨w.heap.size, 1, none⟩ = some (.int .i64 p.t) ∧ w3.cell? ⟨w.heap.size, 2, none⟩ = some (.int .i64 p.d)) ∧ Below w.heap.size w w3 ∧ w.heap.size < w3.heap.size := ⟨⟨hP3.c0, hP3.c1, hP3.c2⟩, hB3, by omega⟩
  have hs1 := print_size p.f
  have hs2 := print_size p.t
  have hn1 : ¬ 9223372036854775807 < (Txt.print p.f).size + 1 := by omega
  have hn2 : ¬ 9223372036854775807 < (Txt.print p.f).size + 1 + (Txt.print p.t).size := by omega
  have hn3 : ¬ 9223372036854775807 < (Txt.print p.f).size + 1 + (Txt.print p.t).size + 1 := by omega
  clear h0 hP3 hB3
  go_wp2_with fail
  go_region_held3 (fun w' => (w'.cell? ⟨w.heap.size, 0, none⟩ = some (.int .i64 p.f) ∧ w'.cell? ⟨w.heap.size, 1, none⟩ = some (.int .i64 p.t) ∧ w'.cell? ⟨w.heap.size, 2, none⟩ = some (.int .i64 p.d)) ∧ Below w.heap.size w w' ∧ w.heap.size < w'.heap.size) (first | exact hs_drew hS | exact hs_bw (by assumption) (by assumption)) (first
    | (go_at_call 25; (first | (with_reducible refine (rPrint_yes p.f _ hf).mono ?_) | (with_reducible refine (rPrint_yes p.t _ ht).mono ?_)); rintro e w4 ⟨rfl, hb4⟩))
  rename_i hS'
  have hSb := hS'.2.1
  obtain ⟨-, -, hc2⟩ := hS'.1
  clear hS hS' hn1 hn2 hn3
  go_wp2_with fail
  obtain ⟨base, hbase⟩ : ∃ base, Txt.print p.f ++ { data := #[47] } ++ Txt.print p.t ++ { data := #[47] } = base := ⟨_, rfl⟩
  have hbs : base.size ≤ 22 := by
    rw [← hbase, ByteArray.size_append, ByteArray.size_append, ByteArray.size_append]
    have : (⟨#[47]⟩ : ByteArray).size = 1 := rfl
    omega
  simp only [hbase]
  have HBA := Lib.hid hbase
  clear hbase hs1 hs2
  go_loop [3, 4, 5] (fun x n i => ∃ k : Nat, k ≤ 7 ∧ i = .int .i64 ((k : Int) + 1) ∧ n = .int .i64 (p.d / 2 ^ k) ∧ x = .string (base ++ wdTo p.d k)) (fun _ _ i => (8 - intOf i).toNat)
  case atStart => exact ⟨0, by omega, rfl, by simp, by rw [show wdTo p.d 0 = ByteArray.empty from rfl, ByteArray.append_empty]⟩
  case round =>
    obtain ⟨k, hk, rfl, rfl, rfl⟩ := hrel
    by_cases hlt : k < 7
    · have hq0 : 0 ≤ p.d / 2 ^ k := Int.ediv_nonneg (by omega) (by have := pow_bd (show k ≤ 6 by omega); omega)
      have hq1 : p.d / 2 ^ k ≤ p.d := Int.ediv_le_self _ (by omega)
      have hstep : wdTo p.d (k + 1) = if p.d / 2 ^ k % 2 = 1 then wdTo p.d k ++ ⟨#[UInt8.ofNat (49 + k)]⟩ else wdTo p.d k := rfl
      have HH := Lib.hid (half_step p.d k)
      have hsz := wdTo_size p.d k
      have hxs : (base ++ wdTo p.d k).size ≤ 40 := by rw [ByteArray.size_append]; omega
      obtain ⟨q, hq⟩ : ∃ q, p.d / 2 ^ k = q := ⟨_, rfl⟩
      obtain ⟨x, hx⟩ : ∃ x, base ++ wdTo p.d k = x := ⟨_, rfl⟩
      simp only [hq, hx] at hq0 hq1 hstep hxs HH ⊢
      have HX := Lib.hid hx
      clear hx hq hbs
      by_cases hm : q % 2 = 1
      · rw [if_pos hm] at hstep
        have S := Lib.hid hstep
        have hov : ¬ 9223372036854775807 < x.size + 1 := by omega
        have HD := Lib.hid (dec_any ((k : Int) + 1))
        clear hstep
        go_wp2_with (go_at_call 70; refine (HD.out _ (by omega) (by omega)).mono ?_; rintro e w' ⟨rfl, rfl⟩)
        go_round
        case rel => exact ⟨k + 1, by omega, by go_num, by rw [← HH.out], congrArg Value.string (by rw [S.out, ← ByteArray.append_assoc, HX.out, show 48 + (k + 1) = 49 + k by omega])⟩
        case measure => simp [intOf]; omega
      · rw [if_neg hm] at hstep
        have S := Lib.hid hstep
        clear hstep
        go_wp2_with fail
        go_round
        case rel => exact ⟨k + 1, by omega, by go_num, by rw [← HH.out], by rw [S.out]; exact congrArg Value.string HX.out.symm⟩
        case measure => simp [intOf]; omega
    · obtain rfl : k = 7 := by omega
      go_wp2_with fail
      go_ret
      exact ⟨ret_str (by rw [E.out, ← HBA.out]; rfl), hSb⟩
end Go.Proofs.YtfmdnmkojeolkaaDoor
