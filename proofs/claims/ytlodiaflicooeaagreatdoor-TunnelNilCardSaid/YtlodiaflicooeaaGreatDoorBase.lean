/- No premise on the world is needed. -/
import Derived.Test.YtlodiaflicooeaaGreatDoorEv3
import Derived.Test.YtlodiaflicooeaaGreatDoorProg
import Derived.KernelRfl
set_option linter.unusedVariables false
namespace Go.Ev
instance theAmb : Amb where
  ok _ _ := True
  fr := fun _ _ => trivial
  sub := fun _ _ => trivial
end Go.Ev
