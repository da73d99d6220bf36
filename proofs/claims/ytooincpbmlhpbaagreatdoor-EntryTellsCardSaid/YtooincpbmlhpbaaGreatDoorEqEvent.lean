/-
  WHAT IS PROVED: what the model's '==' says of two events. No condition.
-/
import Derived.Test.YtooincpbmlhpbaaGreatDoorBase
import Derived.Test.YtooincpbmlhpbaaGreatDoorChecked
import Derived.Laws.StructEq
import Derived.Tactics
import Derived.Tactics2
import Derived.StillTactics
import Derived.KernelRfl
namespace Go.Proofs.YtooincpbmlhpbaaGreatDoor.EqEvent
open Go Go.RowKit Go.Proofs.YtooincpbmlhpbaaGreatDoor

end Go.Proofs.YtooincpbmlhpbaaGreatDoor.EqEvent
