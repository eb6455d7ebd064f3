/-
  Facts of types that StockNone's texts ask for besides.
-/
import Derived.Test.YtajhgnefcddenaaDoorTy
namespace Go.Proofs.YtajhgnefcddenaaDoor.Dm
open Go
@[push_cast] theorem snA1 : sizeT Tryd.prog 26 = some 1 := by kernel_rfl
@[push_cast] theorem snA2 : aggT Tryd.prog 26 = some false := by kernel_rfl
@[push_cast] theorem snA3 : zeroT Tryd.prog 26 = some .nilp := by kernel_rfl
@[push_cast] theorem snA4 : sizeT Tryd.prog 40 = some 1 := by kernel_rfl
@[push_cast] theorem snA5 : aggT Tryd.prog 40 = some false := by kernel_rfl
@[push_cast] theorem snA7 : aggT Tryd.prog 117 = some true := by kernel_rfl
end Go.Proofs.YtajhgnefcddenaaDoor.Dm
