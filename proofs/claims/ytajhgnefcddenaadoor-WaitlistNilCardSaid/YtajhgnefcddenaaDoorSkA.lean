/-
  The machine at configurations: Find, Place, the program's and the reference's.
-/
import Derived.Test.YtajhgnefcddenaaDoorSkT
namespace Go.Proofs.YtajhgnefcddenaaDoor.Dm
open Go Gw
set_option linter.unusedSimpArgs false
set_option linter.unusedSimpArgs false

/-- Configurations of a bounded size. -/
structure Sm (c : Cfg) : Prop where
  cabs : c.cabs.length ≤ 30
  cls : ∀ y ∈ c.cabs, y.cls.length ≤ 30
def zCfg : Cfg := ⟨ByteArray.mk #[], [], true⟩
def foundC : Option Cfg → D
  | some c => .tup [.agg c.enc, .bool true]
  | none => .tup [.agg [.str (ByteArray.mk #[]), .nils], .bool false]
def placeD : Option (Nat × Nat) → D
  | some (i, k) => .tup [.int .i64 i, .int .i64 k, .bool true]
  | none => .tup [.int .i64 0, .int .i64 0, .bool false]
/-! ### What may be sold in a cabin, and which class takes the place of a class -/
def likeD : Option ByteArray → D
  | some s => .tup [.str s, .bool true]
  | none => .tup [.str (ByteArray.mk #[]), .bool false]
end Go.Proofs.YtajhgnefcddenaaDoor.Dm
