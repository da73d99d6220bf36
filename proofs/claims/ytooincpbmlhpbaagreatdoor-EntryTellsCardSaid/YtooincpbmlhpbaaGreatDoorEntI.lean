/-
  WHAT IS PROVED: rows of entries: equal to themselves, and as they are parsed. Condition: the variables hold what 'VarsI' and 'VarsH' say, and the strings are not longer than the theorem says.
-/
import Derived.Test.YtooincpbmlhpbaaGreatDoorEntU
namespace Go.Proofs.YtooincpbmlhpbaaGreatDoor.EntI
open Go Go.RowKit Go.Shelf Go.Proofs.YtooincpbmlhpbaaGreatDoor Go.Proofs.YtooincpbmlhpbaaGreatDoor.OctetS Go.Proofs.YtooincpbmlhpbaaGreatDoor.IdentS Go.Proofs.YtooincpbmlhpbaaGreatDoor.EntS Go.Proofs.YtooincpbmlhpbaaGreatDoor.OctG Go.Proofs.YtooincpbmlhpbaaGreatDoor.IdentP Go.Proofs.YtooincpbmlhpbaaGreatDoor.EntP Go.Proofs.YtooincpbmlhpbaaGreatDoor.EventC Go.Proofs.YtooincpbmlhpbaaGreatDoor.ShaA Go.Proofs.YtooincpbmlhpbaaGreatDoor.Steps Go.Proofs.YtooincpbmlhpbaaGreatDoor.KeyA Go.Proofs.YtooincpbmlhpbaaGreatDoor.EntB Go.Proofs.YtooincpbmlhpbaaGreatDoor.EntQ
set_option linter.unusedVariables false
set_option linter.unusedSimpArgs false
attribute [-go_sem] run_equalIn_agg

theorem eq_row {p : Array Value} {r : ByteArray} {ep ix : Int} {pv : List UInt8} {e sg : ByteArray} (hp : EntP p r ep ix pv e sg) (w : World) : (Op.equalIn 10000 25 (.agg p) (.agg p)).run Tryz.prog w = .ok true w := by
  rw [hp.eq, EqEnt.eqEnt _ _ _ _ _ _ _ _ _ _ _ _ hp.len hp.len, EqHash.hEq_self]
  simp
theorem room_le {x : Ent} (h : Right x) : x.room.length ≤ 8192 := by
  have h' : Right { x with prev := WireT.zero32 } := ⟨h.room, h.ep0, h.ep1, h.ix0, h.ix1, h.ev, h.sig⟩
  obtain ⟨_, h2⟩ := fits_iff.1 (h'.fits rfl)
  exact h2 x.room (by simp [parts])
/-- A row that was parsed. -/
theorem rowOf (y : Ent) (hp : y.prev.length = 32) : EntP (entA (bsOf y.room) y.ep y.ix y.prev (bsOf y.ev) (bsOf y.sig)) (bsOf y.room) y.ep y.ix y.prev (bsOf y.ev) (bsOf y.sig) := ⟨rfl, hp⟩
theorem entOf_row (y : Ent) : entOf (bsOf y.room) y.ep y.ix y.prev (bsOf y.ev) (bsOf y.sig) = y := by
  unfold entOf
  rw [bl_bsOf, bl_bsOf, bl_bsOf]
/-- What Parse answers is a row, with its bounds. -/
theorem parse_row (s : ByteArray) (hs : s.size ≤ 140737488351232) : ∃ (X : Array Value) (W : Int) (r : ByteArray) (ep ix : Int) (pv : List UInt8) (e g : ByteArray), EntP X r ep ix pv e g ∧ r.size ≤ 8192 ∧ e.size ≤ 8192 ∧ g.size ≤ 8192 ∧ WireT.entV (WireS.parse (bl s)) = .tuple #[.agg X, .int .i64 W] ∧
    (W = 0 → ∃ y, WireS.parse (bl s) = some y ∧ entOf r ep ix pv e g = y) := by
  cases hx : WireS.parse (bl s) with
  | none => exact ⟨WireT.entZ, 6, ⟨#[]⟩, 0, 0, WireT.zero32, ⟨#[]⟩, ⟨#[]⟩, ⟨rfl, rfl⟩, by decide, by decide, by decide, rfl, fun h => by cases h⟩
  | some y =>
    obtain ⟨hR, hp, ht, hb⟩ := parse_ok hx
    exact ⟨_, 0, bsOf y.room, y.ep, y.ix, y.prev, bsOf y.ev, bsOf y.sig, rowOf y hp, by rw [size_bsOf]; exact room_le hR, by rw [size_bsOf]; exact hR.ev, by rw [size_bsOf]; exact hR.sig, rfl, fun _ => ⟨y, rfl, entOf_row y⟩⟩

end Go.Proofs.YtooincpbmlhpbaaGreatDoor.EntI
