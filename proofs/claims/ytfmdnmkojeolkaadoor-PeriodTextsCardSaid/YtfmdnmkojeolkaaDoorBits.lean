/-
  Bits of small numbers of Go's int: 'and', 'or', 'and not'. No program in sight.
-/
import Derived.WalkKit
import Derived.Test.YtfmdnmkojeolkaaDoorPer
namespace Go.Proofs.YtfmdnmkojeolkaaDoor

theorem i64_and (a b : Int) (h1 : 0 ≤ a) (h2 : a < 9223372036854775808) (h3 : 0 ≤ b) (h4 : b < 9223372036854775808) : bits .and .i64 a b = ((a.toNat &&& b.toNat : Nat) : Int) := by
  obtain ⟨A, rfl⟩ := Int.eq_ofNat_of_zero_le h1
  obtain ⟨B, rfl⟩ := Int.eq_ofNat_of_zero_le h3
  have hx : A &&& B < 2 ^ 63 := Nat.and_lt_two_pow _ (by omega)
  show IntKind.i64.wrap ((BitVec.ofInt 64 (A : Int) &&& BitVec.ofInt 64 (B : Int)).toNat : Int) = _
  rw [BitVec.toNat_and, ofInt_u64 A (by omega), ofInt_u64 B (by omega), IntKind.wrap_i64]
  simp only [Int.toNat_natCast]
  omega
theorem i64_or (a b : Int) (h1 : 0 ≤ a) (h2 : a < 9223372036854775808) (h3 : 0 ≤ b) (h4 : b < 9223372036854775808) : bits .or .i64 a b = ((a.toNat ||| b.toNat : Nat) : Int) := by
  obtain ⟨A, rfl⟩ := Int.eq_ofNat_of_zero_le h1
  obtain ⟨B, rfl⟩ := Int.eq_ofNat_of_zero_le h3
  have hx : A ||| B < 2 ^ 63 := Nat.or_lt_two_pow (by omega) (by omega)
  show IntKind.i64.wrap ((BitVec.ofInt 64 (A : Int) ||| BitVec.ofInt 64 (B : Int)).toNat : Int) = _
  rw [BitVec.toNat_or, ofInt_u64 A (by omega), ofInt_u64 B (by omega), IntKind.wrap_i64]
  simp only [Int.toNat_natCast]
  omega
theorem i64_and1 (a : Int) (h1 : 0 ≤ a) (h2 : a < 9223372036854775808) : bits .and .i64 a 1 = a % 2 := by
  rw [i64_and a 1 h1 h2 (by omega) (by omega)]
  rw [show (1 : Int).toNat = 1 from rfl, nat_mask1]
  omega
theorem i64_not127 (b : Int) (h1 : 0 ≤ b) (h2 : b ≤ 127) : bits .andNot .i64 127 b = 127 - b := by
  have key : ∀ k : Fin 128, bits .andNot .i64 127 ((k : Nat) : Int) = 127 - ((k : Nat) : Int) := by decide +kernel
  have := key ⟨b.toNat, by omega⟩
  rw [show ((b.toNat : Nat) : Int) = b by omega] at this
  exact this
namespace Per
theorem on_test {d : Int} (day : Int) (h : 0 ≤ d) : on d day = d.toNat.testBit (Cal.wd day).toNat := by
  unfold on bit
  rw [Nat.testBit_eq_decide_div_mod_eq]
  have e : ((d.toNat / 2 ^ (Cal.wd day).toNat % 2 : Nat) : Int) = d / 2 ^ (Cal.wd day).toNat % 2 := by
    rw [Int.natCast_emod, Int.natCast_ediv]
    have : ((d.toNat : Nat) : Int) = d := by omega
    rw [this]
    simp
  rw [← e]
  congr 1
  apply propext
  omega
/-- Weekdays that are in both masks. -/
def mand (a b : Int) : Int := ((a.toNat &&& b.toNat : Nat) : Int)
theorem mand_bd {a b : Int} (h0 : 0 ≤ a) (h : a ≤ 127) : 0 ≤ mand a b ∧ mand a b ≤ 127 := by
  unfold mand
  have : a.toNat &&& b.toNat ≤ a.toNat := Nat.and_le_left
  omega
theorem on_mand {a b : Int} (day : Int) (h1 : 0 ≤ a) (h2 : 0 ≤ b) : on (mand a b) day = (on a day && on b day) := by
  rw [on_test day (by unfold mand; omega), on_test day h1, on_test day h2]
  unfold mand
  rw [Int.toNat_natCast, Nat.testBit_and]
theorem on_127 (day : Int) : on 127 day = true := by
  unfold on
  rcases bit_cases day with e | e | e | e | e | e | e <;> rw [e] <;> decide
theorem on_not {b : Int} (day : Int) (h1 : 0 ≤ b) (h2 : b ≤ 127) : on (127 - b) day = !on b day := by
  have hw := Cal.wd_bd day
  have key : ∀ (i : Fin 7) (k : Fin 128), decide ((127 - ((k : Nat) : Int)) / 2 ^ (i : Nat) % 2 = 1) = !decide (((k : Nat) : Int) / 2 ^ (i : Nat) % 2 = 1) := by decide +kernel
  have := key ⟨(Cal.wd day).toNat, by omega⟩ ⟨b.toNat, by omega⟩
  simp only at this
  rw [show ((b.toNat : Nat) : Int) = b by omega] at this
  exact this
theorem or_bit {m : Int} (day : Int) (h1 : 0 ≤ m) (h2 : m ≤ 127) : ((m.toNat ||| (bit day).toNat : Nat) : Int) = orBit m day := by
  have hw := Cal.wd_bd day
  have key : ∀ (i : Fin 7) (k : Fin 128), ((((k : Nat) : Int).toNat ||| ((2 : Int) ^ (i : Nat)).toNat : Nat) : Int) = (if ((k : Nat) : Int) / 2 ^ (i : Nat) % 2 = 0 then ((k : Nat) : Int) + 2 ^ (i : Nat) else ((k : Nat) : Int)) := by decide +kernel
  have := key ⟨(Cal.wd day).toNat, by omega⟩ ⟨m.toNat, by omega⟩
  simp only at this
  rw [show ((m.toNat : Nat) : Int) = m by omega] at this
  exact this
/-- The days of a part of a period. -/
theorem days_part (p : P) (hp : chk p = 0) (f t d : Int) (hd0 : 0 ≤ d) :
    days ⟨max p.f f, min p.t t, mand p.d d⟩ = (days p).filter fun x => decide (f ≤ x ∧ x ≤ t) && on d x := by
  have hb := chk_ok.1 hp
  have hm := mand_bd (b := d) (show 0 ≤ p.d by omega) hb.2.2.2.2.2
  symm
  refine days_ext ((days_sorted p).filter _) (fun x => ?_)
  rw [List.mem_filter, mem_days]
  constructor
  · rintro ⟨h1, h2⟩
    unfold has at h1 ⊢
    simp only [Bool.and_eq_true, decide_eq_true_eq] at h1 h2 ⊢
    have ho : on (mand p.d d) x = true := by rw [on_mand x (by omega) hd0, h1.2, h2.2]; rfl
    have hpos : 1 ≤ mand p.d d := by
      rcases Int.lt_or_le 0 (mand p.d d) with h | h
      · omega
      · have e : mand p.d d = 0 := by omega
        rw [e] at ho; simp [on] at ho
    refine ⟨⟨chk_ok.2 ⟨?_, ?_, ?_, ?_, ?_, ?_⟩, ?_, ?_⟩, ho⟩ <;> (try dsimp only) <;> omega
  · intro h
    unfold has at h ⊢
    simp only [Bool.and_eq_true, decide_eq_true_eq] at h ⊢
    obtain ⟨⟨h1, h2, h3⟩, h4⟩ := h
    rw [on_mand x (by omega) hd0, Bool.and_eq_true] at h4
    exact ⟨⟨⟨hp, by omega, by omega⟩, h4.1⟩, ⟨by omega, by omega⟩, h4.2⟩
end Per
end Go.Proofs.YtfmdnmkojeolkaaDoor
