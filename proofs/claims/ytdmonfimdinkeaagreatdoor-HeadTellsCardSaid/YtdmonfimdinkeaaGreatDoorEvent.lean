/-
  WHAT IS PROVED: what the program's package of events computes. Condition: what each theorem names.
-/
import Derived.Test.YtdmonfimdinkeaaGreatDoorIdent
namespace Go.Proofs.YtdmonfimdinkeaaGreatDoor.EventP
open Go Go.RowKit Go.Proofs.YtdmonfimdinkeaaGreatDoor Go.Proofs.YtdmonfimdinkeaaGreatDoor.IdentS Go.Proofs.YtdmonfimdinkeaaGreatDoor.EventS Go.Proofs.YtdmonfimdinkeaaGreatDoor.OctP Go.Proofs.YtdmonfimdinkeaaGreatDoor.IdentP Go.Proofs.YtdmonfimdinkeaaGreatDoor.IdentQ Go.Proofs.YtdmonfimdinkeaaGreatDoor.IdentR
set_option linter.unusedVariables false
set_option linter.unusedSimpArgs false

def RB (v : Value) (w : World) (e : Ending) (w' : World) : Prop := e = .returned v ∧ Below w.heap.size w w'

theorem room_at (w0 : World) (s : ByteArray) (hs : s.size ≤ 140737488351232) : ∃ n : Int, ∀ w, VarsI w → Calls Tryz.prog 49 #[.string s] w (RB (.tuple #[.int .i64 n, .bool (roomB (bl s))]) w) := by
  unfold roomB
  cases h : serverOf 2 (bl s) with
  | none => exact ⟨0, fun w hv => by have := Room_ok w s hv hs; unfold ServPost at this; rw [h] at this; exact this⟩
  | some n => exact ⟨n, fun w hv => by have := Room_ok w s hv hs; unfold ServPost at this; rw [h] at this; exact this⟩

end Go.Proofs.YtdmonfimdinkeaaGreatDoor.EventP

namespace Go.Proofs.YtdmonfimdinkeaaGreatDoor.EventC
open Go Go.RowKit Go.Proofs.YtdmonfimdinkeaaGreatDoor Go.Proofs.YtdmonfimdinkeaaGreatDoor.IdentS Go.Proofs.YtdmonfimdinkeaaGreatDoor.EventS Go.Proofs.YtdmonfimdinkeaaGreatDoor.OctP Go.Proofs.YtdmonfimdinkeaaGreatDoor.IdentP Go.Proofs.YtdmonfimdinkeaaGreatDoor.IdentQ Go.Proofs.YtdmonfimdinkeaaGreatDoor.IdentR Go.Proofs.YtdmonfimdinkeaaGreatDoor.EventP
set_option linter.unusedVariables false
set_option linter.unusedSimpArgs false

def whyOf (b : Bool) : Int := if b then 0 else 2

end Go.Proofs.YtdmonfimdinkeaaGreatDoor.EventC

namespace Go.Proofs.YtdmonfimdinkeaaGreatDoor.EventB
open Go Go.RowKit Go.Proofs.YtdmonfimdinkeaaGreatDoor Go.Proofs.YtdmonfimdinkeaaGreatDoor.OctetS Go.Proofs.YtdmonfimdinkeaaGreatDoor.IdentS Go.Proofs.YtdmonfimdinkeaaGreatDoor.EventS Go.Proofs.YtdmonfimdinkeaaGreatDoor.OctP Go.Proofs.YtdmonfimdinkeaaGreatDoor.OctQ Go.Proofs.YtdmonfimdinkeaaGreatDoor.IdentP Go.Proofs.YtdmonfimdinkeaaGreatDoor.EventP Go.Proofs.YtdmonfimdinkeaaGreatDoor.EventC
set_option linter.unusedVariables false
set_option linter.unusedSimpArgs false

theorem sl_built {w : World} {b n : Nat} {cs : Array Value} {t : TypeId} (h : w.heap[b]? = some (.cells cs t (0, 0))) (hn : n = cs.size) (hm : n ≤ maxLen) : Sl w (.slice (some ⟨b, 0, none⟩) n n) 1 n cs.toList := by
  subst hn
  refine ⟨by simp, .inr ⟨⟨b, 0, none⟩, cs.size, rfl, Nat.le_refl _, hm, fun j u hu => ?_⟩⟩
  rw [show (Addr.add ⟨b, 0, none⟩ j : Addr) = ⟨b, j, none⟩ by unfold Addr.add; cases j <;> simp]
  rw [cell_row h]
  simpa using hu

end Go.Proofs.YtdmonfimdinkeaaGreatDoor.EventB


