/-
  The machine at codes of airports, countries and carriers, at decimals below 100, and at lists of violations that are compared: the program's and the reference's.
-/
import Derived.Test.YthkbiiammhekfaaGreatDoorTxE
import Derived.Test.YthkbiiammhekfaaGreatDoorGw
import Derived.Test.YthkbiiammhekfaaGreatDoorWq
set_option linter.unusedSimpArgs false
set_option linter.unusedVariables false
namespace Go.Proofs.YthkbiiammhekfaaGreatDoor.Dm
open Go Gw
set_option linter.unusedSimpArgs false

def carS (s : ByteArray) : Bool := codeS s 2 2 && !evr digB s s.size
/-! Decimals of numbers below 100. -/
def dec2 (n : Nat) : ByteArray := if n < 10 then ⟨#[UInt8.ofNat (48 + n)]⟩ else ⟨#[UInt8.ofNat (48 + n / 10), UInt8.ofNat (48 + n % 10)]⟩
theorem itoa2_all : (List.range 100).all (fun n => sameS (strOf (dcall E 40 109 [.int .i64 n] [])) (some (dec2 n))) = true := by kernel_rfl
theorem itoa2_c {n : Nat} (hn : 40 ≤ n) {i : Nat} (hi : i < 100) (st : Bool) (S : List Ob) : callD E (dcall E n) st S 109 [.int .i64 i] = some (.str (dec2 i), S) := by
  obtain ⟨s, h1, h2⟩ := sameS_spec (List.all_eq_true.1 itoa2_all i (List.mem_range.2 hi))
  obtain ⟨T, e⟩ := strOf_spec h1
  rw [Option.some.inj h2]
  exact callD_up hn (callD_pure rfl rfl e rfl)
theorem rdec2_all : (List.range 100).all (fun n => sameS (strOf (dcall E 40 63 [.int .i64 n] [])) (some (dec2 n))) = true := by kernel_rfl
theorem rdec2_c {n : Nat} (hn : 40 ≤ n) {i : Nat} (hi : i < 100) (st : Bool) (S : List Ob) : callD E (dcall E n) st S 63 [.int .i64 i] = some (.str (dec2 i), S) := by
  obtain ⟨s, h1, h2⟩ := sameS_spec (List.all_eq_true.1 rdec2_all i (List.mem_range.2 hi))
  obtain ⟨T, e⟩ := strOf_spec h1
  rw [Option.some.inj h2]
  exact callD_up hn (callD_pure rfl rfl e rfl)
theorem dec2_size (n : Nat) : (dec2 n).size ≤ 2 := by
  unfold dec2; split <;> simp [ByteArray.size]

/-! Lists of violations that are equal are found equal. -/
/-- A list of violations that a call has handed back. -/
def FZ (d : D) (fs : List (Int × ByteArray)) : Prop := (d = .nils ∧ fs = []) ∨ ∃ x, d = .sl 2 (fs.map encF) x
theorem FV.fz {T : List Ob} {d : D} {fs : List (Int × ByteArray)} (h : FV T d fs) : ∃ d', freeze T 40 d = some d' ∧ FZ d' fs := by
  rcases h with ⟨rfl, rfl⟩ | ⟨x, rfl⟩ | ⟨k, rfl, hk⟩
  · exact ⟨_, rfl, .inl ⟨rfl, rfl⟩⟩
  · exact ⟨_, freeze_pure (encF_pure fs), .inr ⟨x, rfl⟩⟩
  · have := freeze_os (n := 38) (x := false) hk (encF_pure fs)
    rw [List.length_map] at this
    exact ⟨_, this, .inr ⟨_, rfl⟩⟩
theorem FZ.pure {d : D} {fs : List (Int × ByteArray)} (h : FZ d fs) : d.pure = true := by
  rcases h with ⟨rfl, -⟩ | ⟨x, rfl⟩
  · rfl
  · exact encF_pure fs
end Go.Proofs.YthkbiiammhekfaaGreatDoor.Dm
