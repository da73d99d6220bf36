/-
  WHAT IS PROVED: the reference's entry of bytes, or none. Condition: what each theorem names.
-/
import Derived.Test.YtdmonfimdinkeaaGreatDoorCore
import Derived.Test.YtdmonfimdinkeaaGreatDoorWireS
import Derived.BigRegionIn
import Derived.Handy
import Derived.KernelRfl
import Derived.Laws.CopyRow
import Derived.Laws.StructEq
import Derived.LoopIn
import Derived.LoopNIn
import Derived.RangeFuncBound
import Derived.RangeFuncBox
import Derived.RangeFuncLeaves
import Derived.Shelf.Abstract
import Derived.Shelf.RegionOpen
import Derived.StillTactics
import Derived.Tactics
import Derived.Tactics2
import Derived.TacticsInMore
import Derived.Test.YtdmonfimdinkeaaGreatDoorChecked
import Derived.Test.YtdmonfimdinkeaaGreatDoorRows
import Derived.Test.YtdmonfimdinkeaaGreatDoorShelf
namespace Go.Proofs.YtdmonfimdinkeaaGreatDoor.WireE
open Go Go.RowKit Go.Shelf Go.Proofs.YtdmonfimdinkeaaGreatDoor Go.Proofs.YtdmonfimdinkeaaGreatDoor.OctetS Go.Proofs.YtdmonfimdinkeaaGreatDoor.IdentS Go.Proofs.YtdmonfimdinkeaaGreatDoor.EntS Go.Proofs.YtdmonfimdinkeaaGreatDoor.WireS Go.Proofs.YtdmonfimdinkeaaGreatDoor.Steps
set_option linter.unusedVariables false
set_option linter.unusedSimpArgs false

/-- The number that bytes begin with. -/
def gnI (t : List UInt8) : Int := ((getNum t).1 : Nat)
theorem gnI_eq {t : List UInt8} {n u : Nat} {y : Int} (h : getNum t = (n, u, y)) : gnI t = n := by unfold gnI; rw [h]
theorem gnI_small {m n : Nat} {t : List UInt8} (h : small m t = some n) : gnI t = n := by
  unfold small at h
  split at h
  · cases h; rfl
  · cases h

end Go.Proofs.YtdmonfimdinkeaaGreatDoor.WireE
