/-
  WHAT IS PROVED: rows of deals that were parsed, or answered. Condition: what each theorem names.
-/
import Derived.Test.YtdmonfimdinkeaaGreatDoorDlT
namespace Go.Proofs.YtdmonfimdinkeaaGreatDoor.DlI
open Go Go.RowKit Go.Shelf Go.Proofs.YtdmonfimdinkeaaGreatDoor Go.Proofs.YtdmonfimdinkeaaGreatDoor.OctetS Go.Proofs.YtdmonfimdinkeaaGreatDoor.IdentS Go.Proofs.YtdmonfimdinkeaaGreatDoor.EntS Go.Proofs.YtdmonfimdinkeaaGreatDoor.OctG Go.Proofs.YtdmonfimdinkeaaGreatDoor.IdentP Go.Proofs.YtdmonfimdinkeaaGreatDoor.EntP Go.Proofs.YtdmonfimdinkeaaGreatDoor.EventC Go.Proofs.YtdmonfimdinkeaaGreatDoor.ShaA Go.Proofs.YtdmonfimdinkeaaGreatDoor.Steps Go.Proofs.YtdmonfimdinkeaaGreatDoor.KeyA Go.Proofs.YtdmonfimdinkeaaGreatDoor.KeyS Go.Proofs.YtdmonfimdinkeaaGreatDoor.KeyI Go.Proofs.YtdmonfimdinkeaaGreatDoor.KeyK Go.Proofs.YtdmonfimdinkeaaGreatDoor.TreeA Go.Proofs.YtdmonfimdinkeaaGreatDoor.WireS Go.Proofs.YtdmonfimdinkeaaGreatDoor.WireT Go.Proofs.YtdmonfimdinkeaaGreatDoor.WireD Go.Proofs.YtdmonfimdinkeaaGreatDoor.DlV Go.Proofs.YtdmonfimdinkeaaGreatDoor.DlT Go.Proofs.YtdmonfimdinkeaaGreatDoor.KeyG
set_option linter.unusedVariables false

/-- What Parse answers is a row, with its bounds. -/
theorem parse_row (s : ByteArray) : ∃ (X : Array Value) (W : Int) (k : Int) (r : ByteArray) (ep ix hub next : Int) (g : ByteArray), X = dlA k r ep ix hub next g ∧ 0 ≤ k ∧ k ≤ 255 ∧ r.size ≤ 8192 ∧ g.size ≤ 8192 ∧ dlV (parseD (bl s)) = .tuple #[.agg X, .int .i64 W] ∧
    (W = 0 → parseD (bl s) = some (dlOf k r ep ix hub next g)) := by
  cases hx : parseD (bl s) with
  | none => exact ⟨dlZ, 6, 0, ⟨#[]⟩, 0, 0, 0, 0, ⟨#[]⟩, rfl, by decide, by decide, by decide, by decide, rfl, fun h => by cases h⟩
  | some y =>
    obtain ⟨hR, ht, hb⟩ := DlS.parse_ok hx
    have hr := room_length hR.room
    have hk := hR.kind
    refine ⟨_, 0, y.kind, bsOf y.room, y.ep, y.ix, y.hub, y.next, bsOf y.sig, rfl, by omega, by omega, by rw [size_bsOf]; omega, by rw [size_bsOf]; exact hR.sig, rfl, fun _ => ?_⟩
    unfold dlOf
    rw [bl_bsOf, bl_bsOf]
theorem ans_row (k : Int) (r : ByteArray) (ep ix hub next : Int) (sg : ByteArray) : ∃ (k' : Int) (r' : ByteArray) (ep' ix' hub' next' : Int) (g' : ByteArray), ansA k r ep ix hub next sg = dlA k' r' ep' ix' hub' next' g' := by
  unfold ansA
  split
  · exact ⟨_, _, _, _, _, _, _, rfl⟩
  · exact ⟨_, _, _, _, _, _, _, rfl⟩

end Go.Proofs.YtdmonfimdinkeaaGreatDoor.DlI
