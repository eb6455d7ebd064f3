/-
  Facts of types that StockNone's texts ask for besides.
-/
import Derived.Test.YtlamgjbngblefaaGreatDoorTy
namespace Go.Proofs.YtlamgjbngblefaaGreatDoor.Dm
open Go
@[push_cast] theorem snA1 : sizeT Tryz.prog 27 = some 1 := by kernel_rfl
@[push_cast] theorem snA2 : aggT Tryz.prog 27 = some false := by kernel_rfl
@[push_cast] theorem snA3 : zeroT Tryz.prog 27 = some .nilp := by kernel_rfl
@[push_cast] theorem snA4 : sizeT Tryz.prog 36 = some 1 := by kernel_rfl
@[push_cast] theorem snA5 : aggT Tryz.prog 36 = some false := by kernel_rfl
@[push_cast] theorem snA6 : elemT Tryz.prog 88 = some 27 := by kernel_rfl
@[push_cast] theorem snA7 : aggT Tryz.prog 136 = some true := by kernel_rfl
end Go.Proofs.YtlamgjbngblefaaGreatDoor.Dm
