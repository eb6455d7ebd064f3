/-
  What the frames of the laws of layer 4 import.
-/
import Derived.Test.YtfmdnmkojeolkaaDoorFrame
import Derived.Test.YtfmdnmkojeolkaaDoorPerWeeks
import Derived.Lib.SmallJoins
