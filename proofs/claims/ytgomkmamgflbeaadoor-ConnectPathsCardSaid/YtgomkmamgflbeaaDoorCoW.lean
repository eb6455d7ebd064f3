/-
  The walk of ConnectValid.
-/
import Derived.Test.YtgomkmamgflbeaaDoorPlY
import Derived.Test.YtgomkmamgflbeaaDoorCoV
import Derived.Test.YtgomkmamgflbeaaDoorCoZ
namespace Go.Proofs.YtgomkmamgflbeaaDoor
open Go Dm Go.RowKit

end Go.Proofs.YtgomkmamgflbeaaDoor
