/-
  The walks of layer 3 (calendar) and of its reference: what each function computes, the table of lengths as laid.
-/
import Derived.Test.YtfmdnmkojeolkaaDoorChecked
import Derived.Test.YtfmdnmkojeolkaaDoorCal
import Derived.WalkKit
import Derived.WalkSpells
import Derived.WalkLawsBesides
import Derived.Deep.QuietTactic
import Derived.BigQuiet
import Derived.Lib.Hide
namespace Go.Proofs.YtfmdnmkojeolkaaDoor
open Go.RowKit

/-- The table of lengths reads as its text lays it. -/
def HasLen (w : World) : Prop := ∀ i : Nat, i < 12 → w.cell? ⟨0, i, none⟩ = some (.int .i64 (Cal.dim 1 ((i : Int) + 1)))

theorem dim_not (y m : Int) (h : ¬ (m = 2 ∧ y % 4 = 0)) : Cal.dim 1 m = Cal.dim y m := by
  unfold Cal.dim
  by_cases h2 : m = 2
  · rw [if_pos h2, if_pos h2, if_neg (by decide), if_neg (by omega)]
  · rw [if_neg h2, if_neg h2]

theorem ret_int {k : IntKind} {a b : Int} (h : a = b) : Ending.returned (.int k a) = .returned (.int k b) := by rw [h]

set_option maxHeartbeats 400000 in
theorem length_any (y m : Int) (w : World) (hl : HasLen w) (h0 : 0 ≤ y) (h1 : 1 ≤ m) (h2 : m ≤ 12) :
    Calls Tryd.prog 53 #[.int .i64 y, .int .i64 m] w fun e w' => e = .returned (.int .i64 (Cal.dim y m)) ∧ w = w' := by
  obtain ⟨k, hk⟩ : ∃ k : Nat, m = (k : Int) + 1 := ⟨(m - 1).toNat, by omega⟩
  subst hk
  have hk : k < 12 := by omega
  have hc := hl k hk
  clear hl
  by_cases hm : (k : Int) + 1 = 2
  · have hm' : k = 1 := by omega
    subst hm'
    clear hm
    by_cases hy : y % 4 = 0
    · have e : Cal.dim y 2 = 29 := by simp [Cal.dim, hy]
      have E := Lib.hid e
      clear e hc
      go_enter Tryd.func53, Tryd.ntmps53
      go_wp2
      go_ret
      exact ⟨ret_int (E.out.symm), rfl⟩
    · have e : Cal.dim y 2 = 28 := by simp [Cal.dim, hy]
      have e1 : Cal.dim 1 (((1 : Nat) : Int) + 1) = 28 := by decide
      rw [e1] at hc
      have E := Lib.hid e
      clear e e1
      go_enter Tryd.func53, Tryd.ntmps53
      go_wp2
      go_ret
      exact ⟨ret_int (E.out.symm), rfl⟩
  · rw [dim_not y _ (fun h => hm h.1)] at hc
    go_enter Tryd.func53, Tryd.ntmps53
    go_wp2
    go_ret
    exact ⟨rfl, rfl⟩



set_option maxHeartbeats 1000000 in
theorem Length_any (y m : Int) (w : World) (h0 : 0 ≤ y) :
    Calls Tryd.prog 55 #[.int .i64 y, .int .i64 m] w fun e w' => e = .returned (.int .i64 (Cal.dim y m)) ∧ w = w' := by
  by_cases m4 : m = 4
  · subst m4
    go_enter Tryd.func55, Tryd.ntmps55
    go_wp2
    go_ret
    exact ⟨rfl, rfl⟩
  by_cases m6 : m = 6
  · subst m6
    go_enter Tryd.func55, Tryd.ntmps55
    go_wp2
    go_ret
    exact ⟨rfl, rfl⟩
  by_cases m9 : m = 9
  · subst m9
    go_enter Tryd.func55, Tryd.ntmps55
    go_wp2
    go_ret
    exact ⟨rfl, rfl⟩
  by_cases m11 : m = 11
  · subst m11
    go_enter Tryd.func55, Tryd.ntmps55
    go_wp2
    go_ret
    exact ⟨rfl, rfl⟩
  by_cases m2 : m = 2
  · subst m2
    by_cases hy : y % 4 = 0
    · have E := Lib.hid (show Cal.dim y 2 = 29 by simp [Cal.dim, hy])
      go_enter Tryd.func55, Tryd.ntmps55
      go_wp2
      go_ret
      exact ⟨ret_int E.out.symm, rfl⟩
    · have E := Lib.hid (show Cal.dim y 2 = 28 by simp [Cal.dim, hy])
      go_enter Tryd.func55, Tryd.ntmps55
      go_wp2
      go_ret
      exact ⟨ret_int E.out.symm, rfl⟩
  have E := Lib.hid (show Cal.dim y m = 31 by unfold Cal.dim; rw [if_neg m2, if_neg (by omega)])
  go_enter Tryd.func55, Tryd.ntmps55
  go_wp2
  go_ret
  exact ⟨ret_int E.out.symm, rfl⟩

theorem first_any (y : Int) (w : World) (h0 : 2000 ≤ y) (h1 : y ≤ 10000) :
    Calls Tryd.prog 54 #[.int .i64 y] w fun e w' => e = .returned (.int .i64 (Cal.fst y)) ∧ w = w' := by
  go_enter Tryd.func54, Tryd.ntmps54
  go_wp2
  go_ret
  exact ⟨ret_int (by unfold Cal.fst; omega), rfl⟩

theorem Weekday_any (d : Int) (w : World) :
    Calls Tryd.prog 20 #[.int .i64 d] w fun e w' => e = .returned (.int .i64 (Cal.wd d)) ∧ w = w' := by
  obtain ⟨b1, b2⟩ := Cal.tmod7_bd d
  go_enter Tryd.func20, Tryd.ntmps20
  go_wp2
  go_ret
  exact ⟨ret_int (Cal.wd_of d), rfl⟩
theorem rWeekday_any (d : Int) (w : World) :
    Calls Tryd.prog 21 #[.int .i64 d] w fun e w' => e = .returned (.int .i64 (Cal.wd d)) ∧ w = w' := by
  obtain ⟨b1, b2⟩ := Cal.tmod7_bd d
  go_enter Tryd.func21, Tryd.ntmps21
  go_wp2
  go_ret
  exact ⟨ret_int (Cal.wd_of d), rfl⟩

theorem ret_int2 {k k' : IntKind} {a b a' b' : Int} (h : a = b) (h' : a' = b') : Ending.returned (.tuple #[.int k a, .int k' a']) = .returned (.tuple #[.int k b, .int k' b']) := by rw [h, h']

theorem Split_any (d : Int) (w : World) (h0 : -9223372036854775808 ≤ d) (h1 : d ≤ 9223372036854775807) :
    Calls Tryd.prog 30 #[.int .i64 d] w fun e w' => e = .returned (.tuple #[.int .i64 (d / 1440), .int .i64 (d % 1440)]) ∧ w = w' := by
  obtain ⟨b1, b2⟩ := Cal.split_bd d
  obtain ⟨b3, b4⟩ := Cal.tdiv_bd h0 h1
  clear h0 h1
  go_enter Tryd.func30, Tryd.ntmps30
  go_wp2
  · have h : d.tmod 1440 < 0 := by assumption
    go_ret2
    exact ⟨ret_int2 (Cal.split_neg h).1 (Cal.split_neg h).2, rfl⟩
  · have h : 0 ≤ d.tmod 1440 := by assumption
    go_ret2
    exact ⟨ret_int2 (Cal.split_pos h).1 (Cal.split_pos h).2, rfl⟩
theorem rSplit_any (d : Int) (w : World) (h0 : -9223372036854775808 ≤ d) (h1 : d ≤ 9223372036854775807) :
    Calls Tryd.prog 31 #[.int .i64 d] w fun e w' => e = .returned (.tuple #[.int .i64 (d / 1440), .int .i64 (d % 1440)]) ∧ w = w' := by
  obtain ⟨b1, b2⟩ := Cal.split_bd d
  obtain ⟨b3, b4⟩ := Cal.tdiv_bd h0 h1
  clear h0 h1
  go_enter Tryd.func31, Tryd.ntmps31
  go_wp2
  · have h : d.tmod 1440 < 0 := by assumption
    go_ret2
    exact ⟨ret_int2 (Cal.split_neg h).1 (Cal.split_neg h).2, rfl⟩
  · have h : 0 ≤ d.tmod 1440 := by assumption
    go_ret2
    exact ⟨ret_int2 (Cal.split_pos h).1 (Cal.split_pos h).2, rfl⟩

end Go.Proofs.YtfmdnmkojeolkaaDoor
