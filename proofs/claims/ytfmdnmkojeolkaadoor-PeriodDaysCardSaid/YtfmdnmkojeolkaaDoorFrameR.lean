/-
  What the frame of PeriodDays imports.
-/
import Derived.Test.YtfmdnmkojeolkaaDoorFrame
import Derived.Test.YtfmdnmkojeolkaaDoorPerDays
import Derived.Lib.SmallJoins
