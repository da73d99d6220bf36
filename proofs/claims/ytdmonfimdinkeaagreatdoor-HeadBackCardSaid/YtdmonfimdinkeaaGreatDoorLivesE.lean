/-
  WHAT IS PROVED: the program's event package reads an event of its bytes, whatever the bytes are; the statements' own check of the events answers true. Condition: the listed variables hold what 'VarsE' says, and the bytes are not longer than the theorem says.
-/
import Derived.Test.YtdmonfimdinkeaaGreatDoorEvent
import Derived.Test.YtdmonfimdinkeaaGreatDoorEqEvent
namespace Go.Proofs.YtdmonfimdinkeaaGreatDoor.LivesE
open Go Go.RowKit Go.Proofs.YtdmonfimdinkeaaGreatDoor Go.Proofs.YtdmonfimdinkeaaGreatDoor.OctetS Go.Proofs.YtdmonfimdinkeaaGreatDoor.IdentS Go.Proofs.YtdmonfimdinkeaaGreatDoor.EventS Go.Proofs.YtdmonfimdinkeaaGreatDoor.OctP Go.Proofs.YtdmonfimdinkeaaGreatDoor.OctA Go.Proofs.YtdmonfimdinkeaaGreatDoor.IdentP Go.Proofs.YtdmonfimdinkeaaGreatDoor.EventP Go.Proofs.YtdmonfimdinkeaaGreatDoor.EventC Go.Proofs.YtdmonfimdinkeaaGreatDoor.EventB Go.Proofs.YtdmonfimdinkeaaGreatDoor.EventR
set_option linter.unusedVariables false
set_option linter.unusedSimpArgs false
attribute [-go_sem] run_equalIn_agg

def ev0 : Ev := ⟨[33, 104, 97, 108, 108, 58, 48], [64, 97, 110, 110, 58, 48], 6, [], [104, 105], 7⟩
def s0 : List UInt8 := [6, 7, 33, 104, 97, 108, 108, 58, 48, 6, 64, 97, 110, 110, 58, 48, 7, 109, 101, 115, 115, 97, 103, 101, 0, 2, 104, 105, 1, 7]
theorem right0 : Right ev0 := check_iff.1 (by decide +kernel)
theorem bytes0 : EventS.bytes ev0 = s0 := by decide +kernel

theorem t2 (w : World) : Calls Tryz.prog 44 #[.string (bsOf s0)] w (AllPost w (parts ev0, 0)) := by
  have h := All_ok w (bsOf s0) (by decide)
  rw [bl_bsOf, ← bytes0, EventS.bytes, all_list right0.fits] at h
  exact h
theorem below_cell {w w' : World} {p : Addr} {v : Value} (hb : Below w.heap.size w w') (h : w.cell? p = some v) : w'.cell? p = some v := (hb.cell (World.block_lt_of_cell? w _ h)).trans h

end Go.Proofs.YtdmonfimdinkeaaGreatDoor.LivesE
