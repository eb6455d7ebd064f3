/-
  What the frame of PeriodSets imports.
-/
import Derived.Test.YtfmdnmkojeolkaaDoorFrame
import Derived.Test.YtfmdnmkojeolkaaDoorPerSets
import Derived.Lib.SmallJoins
