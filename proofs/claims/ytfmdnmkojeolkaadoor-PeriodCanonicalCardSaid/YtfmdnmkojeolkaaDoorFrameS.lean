/-
  What the frame of PeriodCanonical imports.
-/
import Derived.Test.YtfmdnmkojeolkaaDoorFrame
import Derived.Test.YtfmdnmkojeolkaaDoorPerCanon
import Derived.Lib.SmallJoins
