/-
  What the frame of PeriodParts imports.
-/
import Derived.Test.YtfmdnmkojeolkaaDoorFrame
import Derived.Test.YtfmdnmkojeolkaaDoorPerParts
import Derived.Lib.SmallJoins
