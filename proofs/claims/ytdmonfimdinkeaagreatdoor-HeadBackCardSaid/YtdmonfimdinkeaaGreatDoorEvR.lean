/-
  WHAT IS PROVED: what the document's own answers on events are. Condition: what each theorem names.
-/
import Derived.Test.YtdmonfimdinkeaaGreatDoorEvent
import Derived.Test.YtdmonfimdinkeaaGreatDoorRefId
import Derived.Test.YtdmonfimdinkeaaGreatDoorLivesE
import Derived.Test.YtdmonfimdinkeaaGreatDoorRef1
namespace Go.Proofs.YtdmonfimdinkeaaGreatDoor.EvRW
open Go Go.RowKit Go.Proofs.YtdmonfimdinkeaaGreatDoor Go.Proofs.YtdmonfimdinkeaaGreatDoor.IdentS Go.Proofs.YtdmonfimdinkeaaGreatDoor.EventS Go.Proofs.YtdmonfimdinkeaaGreatDoor.EventP
set_option linter.unusedVariables false
set_option linter.unusedSimpArgs false

theorem kind_is {k : Int} (h0 : 0 ≤ k) : k = 0 ∨ k = 1 ∨ k = 2 ∨ k = 3 ∨ k = 4 ∨ k = 5 ∨ k = 6 ∨ k = 7 ∨ k = 8 ∨ 9 ≤ k := by omega
theorem word_far {k : Int} (h : 9 ≤ k) : word k = [] := by
  unfold word
  obtain ⟨n, hn⟩ : ∃ n, k.toNat = n + 9 := ⟨k.toNat - 9, by omega⟩
  rw [hn]
  rfl

theorem word_empty {k : Int} (h : EventS.known k = false) : word k = [] := by
  unfold EventS.known at h
  simp only [Bool.and_eq_false_iff, decide_eq_false_iff_not] at h
  by_cases h9 : 9 ≤ k
  · exact word_far h9
  · unfold word
    rw [show k.toNat = 0 by omega]
    rfl
theorem word_full {k : Int} (h : EventS.known k = true) : (bsOf (word k)).toList.isEmpty = false := by
  rw [bl_toList, bl_bsOf]
  rcases known_cases h with rfl | rfl | rfl | rfl | rfl | rfl | rfl | rfl <;> rfl

end Go.Proofs.YtdmonfimdinkeaaGreatDoor.EvRW

namespace Go.Proofs.YtdmonfimdinkeaaGreatDoor.EvRC
open Go Go.RowKit Go.Proofs.YtdmonfimdinkeaaGreatDoor Go.Proofs.YtdmonfimdinkeaaGreatDoor.IdentS Go.Proofs.YtdmonfimdinkeaaGreatDoor.EventS Go.Proofs.YtdmonfimdinkeaaGreatDoor.OctP Go.Proofs.YtdmonfimdinkeaaGreatDoor.IdentP Go.Proofs.YtdmonfimdinkeaaGreatDoor.IdentQ Go.Proofs.YtdmonfimdinkeaaGreatDoor.IdentR Go.Proofs.YtdmonfimdinkeaaGreatDoor.EventP Go.Proofs.YtdmonfimdinkeaaGreatDoor.EventC Go.Proofs.YtdmonfimdinkeaaGreatDoor.EvRW
set_option linter.unusedVariables false
set_option linter.unusedSimpArgs false

theorem room_at (s : ByteArray) (hs : s.size ≤ 140737488351232) : ∃ n : Int, ∀ w, Calls Tryz.prog 51 #[.string s] w (RB (.tuple #[.int .i64 n, .bool (roomB (bl s))]) w) := by
  unfold roomB
  cases h : serverOf 2 (bl s) with
  | none => exact ⟨0, fun w => by have := RefU.Room_ok w s hs; unfold ServPost at this; rw [h] at this; exact this⟩
  | some n => exact ⟨n, fun w => by have := RefU.Room_ok w s hs; unfold ServPost at this; rw [h] at this; exact this⟩

theorem empty_of {s : ByteArray} (h : s.toList.isEmpty = true) : bl s = [] := by
  rw [bl_toList, List.isEmpty_iff] at h
  exact h

end Go.Proofs.YtdmonfimdinkeaaGreatDoor.EvRC

namespace Go.Proofs.YtdmonfimdinkeaaGreatDoor.EvRB
open Go Go.RowKit Go.Proofs.YtdmonfimdinkeaaGreatDoor Go.Proofs.YtdmonfimdinkeaaGreatDoor.OctetS Go.Proofs.YtdmonfimdinkeaaGreatDoor.IdentS Go.Proofs.YtdmonfimdinkeaaGreatDoor.EventS Go.Proofs.YtdmonfimdinkeaaGreatDoor.OctP Go.Proofs.YtdmonfimdinkeaaGreatDoor.OctQ Go.Proofs.YtdmonfimdinkeaaGreatDoor.IdentP Go.Proofs.YtdmonfimdinkeaaGreatDoor.EventP Go.Proofs.YtdmonfimdinkeaaGreatDoor.EventC Go.Proofs.YtdmonfimdinkeaaGreatDoor.EventB
set_option linter.unusedVariables false
set_option linter.unusedSimpArgs false
open Go.Proofs.YtdmonfimdinkeaaGreatDoor.LivesE (below_cell)

end Go.Proofs.YtdmonfimdinkeaaGreatDoor.EvRB
