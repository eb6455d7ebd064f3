/-
  What plain data of a request are.
-/
import Derived.Test.YtajhgnefcddenaaDoorZg
import Derived.Test.YtajhgnefcddenaaDoorWlT
namespace Go.Proofs.YtajhgnefcddenaaDoor
open Go Dm Go.RowKit
set_option linter.unusedSimpArgs false

end Go.Proofs.YtajhgnefcddenaaDoor
