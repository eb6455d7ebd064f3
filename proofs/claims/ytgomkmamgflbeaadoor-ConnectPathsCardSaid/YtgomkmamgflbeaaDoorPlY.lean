/-
  What plain data of places are.
-/
import Derived.Test.YtgomkmamgflbeaaDoorCoY
import Derived.Test.YtgomkmamgflbeaaDoorPlT
namespace Go.Proofs.YtgomkmamgflbeaaDoor
open Go Dm Go.RowKit
set_option linter.unusedSimpArgs false

end Go.Proofs.YtgomkmamgflbeaaDoor
