/-
  WHAT IS PROVED: what the document's own answers on events are. Condition: what each theorem names.
-/
import Derived.Test.YtdmonfimdinkeaaGreatDoorEvent
import Derived.Test.YtdmonfimdinkeaaGreatDoorRefId
import Derived.KernelRfl
import Derived.Laws.StructEq
import Derived.StillTactics
import Derived.Tactics
import Derived.Tactics2
import Derived.Test.YtdmonfimdinkeaaGreatDoorChecked
namespace Go.Proofs.YtdmonfimdinkeaaGreatDoor.EvRC
open Go Go.RowKit Go.Proofs.YtdmonfimdinkeaaGreatDoor Go.Proofs.YtdmonfimdinkeaaGreatDoor.IdentS Go.Proofs.YtdmonfimdinkeaaGreatDoor.EventS Go.Proofs.YtdmonfimdinkeaaGreatDoor.OctP Go.Proofs.YtdmonfimdinkeaaGreatDoor.IdentP Go.Proofs.YtdmonfimdinkeaaGreatDoor.IdentQ Go.Proofs.YtdmonfimdinkeaaGreatDoor.IdentR Go.Proofs.YtdmonfimdinkeaaGreatDoor.EventP Go.Proofs.YtdmonfimdinkeaaGreatDoor.EventC
set_option linter.unusedVariables false
set_option linter.unusedSimpArgs false

theorem room_at (s : ByteArray) (hs : s.size ≤ 140737488351232) : ∃ n : Int, ∀ w, Calls Tryz.prog 51 #[.string s] w (RB (.tuple #[.int .i64 n, .bool (roomB (bl s))]) w) := by
  unfold roomB
  cases h : serverOf 2 (bl s) with
  | none => exact ⟨0, fun w => by have := RefU.Room_ok w s hs; unfold ServPost at this; rw [h] at this; exact this⟩
  | some n => exact ⟨n, fun w => by have := RefU.Room_ok w s hs; unfold ServPost at this; rw [h] at this; exact this⟩

end Go.Proofs.YtdmonfimdinkeaaGreatDoor.EvRC

