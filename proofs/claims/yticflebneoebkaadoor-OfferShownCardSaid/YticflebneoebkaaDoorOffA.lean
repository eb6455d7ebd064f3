/-
  The machine at layer 18: the display is that of the reference, for all numbers, and the examples hold.
-/
import Derived.Test.YticflebneoebkaaDoorAwk18
namespace Go.Proofs.YticflebneoebkaaDoor.Dm
open Go

def shownM (x : Int) : Int := if 9 < (if x < 0 then 0 else x) then 9 else (if x < 0 then 0 else x)
theorem shownM_bd (x : Int) : 0 ≤ shownM x ∧ shownM x ≤ 9 := by
  unfold shownM
  split <;> split <;> omega
def shownS (x : Int) : ByteArray := (⟨#[48, 49, 50, 51, 52, 53, 54, 55, 56, 57]⟩ : ByteArray).extract (shownM x).toNat (shownM x + 1).toNat
theorem digits_size : (⟨#[48, 49, 50, 51, 52, 53, 54, 55, 56, 57]⟩ : ByteArray).size = 10 := rfl
theorem Shown_d {n : Nat} (hn : 1 ≤ n) (x : Int) : dcall E n 7 [.int .i64 x] [] = some (.str (shownS x), []) := by
  obtain ⟨m, rfl⟩ : ∃ m, n = m + 1 := ⟨n - 1, by omega⟩
  rw [dcall_eq (E := E) Tryd.func7 rfl (by decide)]
  simp only [push_cast, Tryd.f7]
  have hb := shownM_bd x
  unfold shownS
  rw [show (if 9 < (if x < 0 then 0 else x) then 9 else (if x < 0 then 0 else x)) = shownM x from rfl]
  generalize shownM x = y at *
  simp (disch := omega) only [push_cast, wrap_ok, if_pos, digits_size]
theorem ref_Shown_d {n : Nat} (hn : 1 ≤ n) (x : Int) : dcall E n 8 [.int .i64 x] [] = some (.str (shownS x), []) := by
  obtain ⟨m, rfl⟩ : ∃ m, n = m + 1 := ⟨n - 1, by omega⟩
  rw [dcall_eq (E := E) Tryd.func8 rfl (by decide)]
  simp only [push_cast, Tryd.f8]
  have hb := shownM_bd x
  unfold shownS
  rw [show (if 9 < (if x < 0 then 0 else x) then 9 else (if x < 0 then 0 else x)) = shownM x from rfl]
  generalize shownM x = y at *
  simp (disch := omega) only [push_cast, wrap_ok, if_pos, digits_size]
theorem OfferShown_d (x : Int) : ∃ T, dcall E 101 3 [.int .i64 x] [] = some (.bool true, T) := by
  have c1 : ∀ st S, callD E (dcall E 100) st S 7 [.int .i64 x] = some (.str (shownS x), S) := fun st S => callD_pure rfl rfl (Shown_d (by omega) x) rfl
  have c2 : ∀ st S, callD E (dcall E 100) st S 8 [.int .i64 x] = some (.str (shownS x), S) := fun st S => callD_pure rfl rfl (ref_Shown_d (by omega) x) rfl
  obtain ⟨T, hT⟩ := awake18_d
  have c3 : ∀ st S, callD E (dcall E 100) st S 9 [] = some (.bool true, S) := fun st S => callD_pure rfl rfl hT rfl
  refine ⟨[], ?_⟩
  rw [dcall_eq (E := E) Tryd.func3 rfl (by decide)]
  simp only [push_cast, Tryd.f3, c1, c2, c3, beq_self_eq_true]
end Go.Proofs.YticflebneoebkaaDoor.Dm
