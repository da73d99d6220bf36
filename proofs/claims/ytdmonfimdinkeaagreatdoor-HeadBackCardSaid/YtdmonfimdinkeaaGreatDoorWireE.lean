/-
  WHAT IS PROVED: the reference's entry of bytes, or none. Condition: what each theorem names.
-/
import Derived.Test.YtdmonfimdinkeaaGreatDoorSx
import Derived.Test.YtdmonfimdinkeaaGreatDoorWireT
import Derived.Test.YtdmonfimdinkeaaGreatDoorEntR
import Derived.Test.YtdmonfimdinkeaaGreatDoorRef1B
namespace Go.Proofs.YtdmonfimdinkeaaGreatDoor.WireE
open Go Go.RowKit Go.Shelf Go.Proofs.YtdmonfimdinkeaaGreatDoor Go.Proofs.YtdmonfimdinkeaaGreatDoor.OctetS Go.Proofs.YtdmonfimdinkeaaGreatDoor.IdentS Go.Proofs.YtdmonfimdinkeaaGreatDoor.EntS Go.Proofs.YtdmonfimdinkeaaGreatDoor.WireS Go.Proofs.YtdmonfimdinkeaaGreatDoor.OctG Go.Proofs.YtdmonfimdinkeaaGreatDoor.OctP Go.Proofs.YtdmonfimdinkeaaGreatDoor.OctQ Go.Proofs.YtdmonfimdinkeaaGreatDoor.OctA Go.Proofs.YtdmonfimdinkeaaGreatDoor.EventP Go.Proofs.YtdmonfimdinkeaaGreatDoor.EventC Go.Proofs.YtdmonfimdinkeaaGreatDoor.EntP Go.Proofs.YtdmonfimdinkeaaGreatDoor.WireT Go.Proofs.YtdmonfimdinkeaaGreatDoor.Steps Go.Proofs.YtdmonfimdinkeaaGreatDoor.Wr
set_option linter.unusedVariables false
set_option linter.unusedSimpArgs false

/-- The number that bytes begin with. -/
def gnI (t : List UInt8) : Int := ((getNum t).1 : Nat)
theorem gnI_eq {t : List UInt8} {n u : Nat} {y : Int} (h : getNum t = (n, u, y)) : gnI t = n := by unfold gnI; rw [h]
theorem gnI_small {m n : Nat} {t : List UInt8} (h : small m t = some n) : gnI t = n := by
  unfold small at h
  split at h
  · cases h; rfl
  · cases h

end Go.Proofs.YtdmonfimdinkeaaGreatDoor.WireE
