/-
  The machine at the reference's violations of configurations.
  The machine at the reference's violations of configurations: cabins, and all.
-/
import Derived.Test.YtajhgnefcddenaaDoorSkK
import Derived.Test.YtajhgnefcddenaaDoorSkO
namespace Go.Proofs.YtajhgnefcddenaaDoor.Dm
open Go Gw
set_option linter.unusedSimpArgs false
set_option linter.unusedSimpArgs false

/-! ### Appends of violations -/
/-- An object that may be a list of violations. -/
def FaultOb (o : Ob) : Prop := ∃ fs : List (Int × ByteArray), o = .row 2 (fs.map encF)
def KeepF (T T' : List Ob) : Prop := ∀ (j : Nat) (ob : Ob), ¬ FaultOb ob → T[j]? = some ob → T'[j]? = some ob
theorem KeepF.refl {T : List Ob} : KeepF T T := fun _ _ _ h => h
theorem KeepF.trans {T U V : List Ob} (h : KeepF T U) (g : KeepF U V) : KeepF T V := fun j ob n hj => g j ob n (h j ob n hj)
theorem KeepF.push {T : List Ob} {o : Ob} : KeepF T (T ++ [o]) := fun _ _ _ h => get_old h
/-! ### Texts and numbers -/
/-! ### Classes that occur before -/
/-! ### The violations of the classes of a cabin -/
/-- Texts of a configuration are shorter than the fuel. -/
structure CfgZ (n : Nat) (c : Cfg) : Prop where
  eq : c.equip.size + 20 < n ∧ c.equip.size ≤ 9223372036854775807
  nm : ∀ y ∈ c.cabs, y.name.size + 20 < n ∧ y.name.size ≤ 9223372036854775807
  cl : ∀ y ∈ c.cabs, ∀ z ∈ y.cls, z.code.size + 20 < n ∧ z.code.size ≤ 9223372036854775807
end Go.Proofs.YtajhgnefcddenaaDoor.Dm
