/-
  The walk of ConnectTimes.
-/
import Derived.Test.YtgomkmamgflbeaaDoorCoY
import Derived.Test.YtgomkmamgflbeaaDoorCoE
import Derived.Test.YtgomkmamgflbeaaDoorFrameO
namespace Go.Proofs.YtgomkmamgflbeaaDoor
open Go Dm Go.RowKit

end Go.Proofs.YtgomkmamgflbeaaDoor
