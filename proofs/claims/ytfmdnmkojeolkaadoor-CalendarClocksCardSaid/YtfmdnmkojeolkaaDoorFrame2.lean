/-
  The frame of the laws of layer 3, with the walk of CalendarClocks.
-/
import Derived.Test.YtfmdnmkojeolkaaDoorFrame
import Derived.Test.YtfmdnmkojeolkaaDoorCalLaws2
