/-
  WHAT IS PROVED: what the model's '==' says of two events. No condition.
-/
import Derived.Test.YtdmonfimdinkeaaGreatDoorBase
import Derived.Test.YtdmonfimdinkeaaGreatDoorChecked
import Derived.Laws.StructEq
import Derived.Tactics
import Derived.Tactics2
import Derived.StillTactics
import Derived.KernelRfl
namespace Go.Proofs.YtdmonfimdinkeaaGreatDoor.EqEvent
open Go Go.RowKit Go.Proofs.YtdmonfimdinkeaaGreatDoor

end Go.Proofs.YtdmonfimdinkeaaGreatDoor.EqEvent
