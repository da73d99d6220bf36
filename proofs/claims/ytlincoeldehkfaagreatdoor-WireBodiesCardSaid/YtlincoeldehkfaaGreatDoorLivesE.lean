/-
  WHAT IS PROVED: the program's event package reads an event of its bytes, whatever the bytes are; the statements' own check of the events answers true. Condition: the listed variables hold what 'VarsE' says, and the bytes are not longer than the theorem says.
-/
import Derived.Test.YtlincoeldehkfaaGreatDoorEvent
import Derived.Test.YtlincoeldehkfaaGreatDoorEqEvent
namespace Go.Proofs.YtlincoeldehkfaaGreatDoor.LivesE
open Go Go.RowKit Go.Proofs.YtlincoeldehkfaaGreatDoor Go.Proofs.YtlincoeldehkfaaGreatDoor.OctetS Go.Proofs.YtlincoeldehkfaaGreatDoor.IdentS Go.Proofs.YtlincoeldehkfaaGreatDoor.EventS Go.Proofs.YtlincoeldehkfaaGreatDoor.OctP Go.Proofs.YtlincoeldehkfaaGreatDoor.OctA Go.Proofs.YtlincoeldehkfaaGreatDoor.IdentP Go.Proofs.YtlincoeldehkfaaGreatDoor.EventP Go.Proofs.YtlincoeldehkfaaGreatDoor.EventC Go.Proofs.YtlincoeldehkfaaGreatDoor.EventB Go.Proofs.YtlincoeldehkfaaGreatDoor.EventR
set_option linter.unusedVariables false
set_option linter.unusedSimpArgs false
attribute [local go_sem] EqEvent.eqEvent
attribute [-go_sem] run_equalIn_agg

theorem Parse_ok (w : World) (s : ByteArray) (hv : VarsE w) (hs : s.size ≤ 140737488351232) : Calls Tryz.prog 39 #[.string s] w (EvPost (bl s) w) := by
  obtain ⟨l, y, ha⟩ : ∃ l y, all (bl s) = (l, y) := ⟨_, _, rfl⟩
  by_cases hy : y = 0
  · subst hy
    by_cases h6 : l.length = 6
    · match l, h6 with
      | [a, b, c, d, f, g], _ =>
        obtain ⟨n, u, z, hg⟩ : ∃ n u z, getNum g = (n, u, z) := ⟨_, _, _, rfl⟩
        by_cases hz : z = 0
        · subst hz
          by_cases hu : u < g.length
          · exact Parse_num w s hv hs ha (.inr ⟨by rw [hg], by rw [hg]; exact hu⟩)
          · cases hck : checkB ⟨a, b, kindW c, d, f, n⟩
            · exact Parse_no w s hv hs ha hg (by omega) hck
            · exact Parse_yes w s hv hs ha hg (by omega) hck
        · exact Parse_num w s hv hs ha (.inl (by rw [hg]; exact hz))
    · exact Parse_bad w s hv hs ha (.inr ⟨rfl, h6⟩)
  · exact Parse_bad w s hv hs ha (.inl hy)

def ev0 : Ev := ⟨[33, 104, 97, 108, 108, 58, 48], [64, 97, 110, 110, 58, 48], 6, [], [104, 105], 7⟩
def s0 : List UInt8 := [6, 7, 33, 104, 97, 108, 108, 58, 48, 6, 64, 97, 110, 110, 58, 48, 7, 109, 101, 115, 115, 97, 103, 101, 0, 2, 104, 105, 1, 7]
theorem right0 : Right ev0 := check_iff.1 (by decide +kernel)
theorem bytes0 : EventS.bytes ev0 = s0 := by decide +kernel

theorem t2 (w : World) : Calls Tryz.prog 20 #[.string (bsOf s0)] w (AllPost w (parts ev0, 0)) := by
  have h := All_ok w (bsOf s0) (by decide)
  rw [bl_bsOf, ← bytes0, EventS.bytes, all_list right0.fits] at h
  exact h
theorem t3 (w : World) (hv : VarsE w) : Calls Tryz.prog 39 #[.string (bsOf s0)] w (RB (.tuple #[.agg #[.string ⟨#[33, 104, 97, 108, 108, 58, 48]⟩, .string ⟨#[64, 97, 110, 110, 58, 48]⟩, .int .u8 6, .string ByteArray.empty, .string ⟨#[104, 105]⟩, .int .i64 7], .int .i64 0]) w) := by
  have h := Parse_ok w (bsOf s0) hv (by decide)
  unfold EvPost at h
  rw [bl_bsOf, ← bytes0, parse_bytes right0] at h
  rw [← bytes0]
  exact h
theorem below_cell {w w' : World} {p : Addr} {v : Value} (hb : Below w.heap.size w w') (h : w.cell? p = some v) : w'.cell? p = some v := (hb.cell (World.block_lt_of_cell? w _ h)).trans h

end Go.Proofs.YtlincoeldehkfaaGreatDoor.LivesE
