/-
  WHAT IS PROVED: the program's octet package reads the texts of a whole list's bytes. Condition: the bytes are not longer than each theorem says.
-/
import Derived.Test.YtfodloepkgkilaaDoorOctG
namespace Go.Proofs.YtfodloepkgkilaaDoor.OctA
open Go Go.RowKit Go.Proofs.YtfodloepkgkilaaDoor Go.Proofs.YtfodloepkgkilaaDoor.OctetS Go.Proofs.YtfodloepkgkilaaDoor.OctP Go.Proofs.YtfodloepkgkilaaDoor.OctG
set_option linter.unusedVariables false
set_option linter.unusedSimpArgs false

def AllPost (w : World) (g : List (List UInt8) × Int) (e : Ending) (w' : World) : Prop :=
  ∃ v, e = .returned (.tuple #[v, .int .i64 g.2]) ∧ ListAt w w' v g.1 ∧ Below w.heap.size w w'

set_option maxHeartbeats 1000000 in
theorem All_ok (w : World) (s : ByteArray) (hs : s.size ≤ maxLen) : Calls Tryd.prog 70 #[.string s] w (AllPost w (all (bl s))) := by
  have hg := GetList_ok w s hs
  unfold maxLen at hs
  obtain ⟨l, u, y, hy⟩ : ∃ l u y, getList (bl s) = (l, u, y) := ⟨_, _, _, rfl⟩
  unfold ListPost at hg
  rw [hy] at hg
  by_cases h0 : y = 0
  · subst h0
    have hu := (getList_ok hy).2.1
    rw [bl_length] at hu
    by_cases hlt : u < s.size
    · have hfin : all (bl s) = ([], 6) := by
        unfold all
        rw [hy]
        simp [bl_length, hlt]
      rw [hfin]
      have Hg := Lib.hid hg
      clear hg hfin hy
      go_enter Tryd.func70, Tryd.ntmps70
      go_wp2_with fail
      refine Hg.out.mono ?_
      rintro e w' ⟨v, rfl, hl, hb⟩
      have HL := Lib.hid hl
      have HB := Lib.hid hb
      clear hl hb
      go_wp2
      go_ret2
      exact ⟨_, rfl, ListAt.nil _ _, HB.out⟩
    · have hfin : all (bl s) = (l, 0) := by
        unfold all
        rw [hy]
        simp [bl_length, hlt]
      rw [hfin]
      have Hg := Lib.hid hg
      clear hg hfin hy
      go_enter Tryd.func70, Tryd.ntmps70
      go_wp2_with fail
      refine Hg.out.mono ?_
      rintro e w' ⟨v, rfl, hl, hb⟩
      have HL := Lib.hid hl
      have HB := Lib.hid hb
      clear hl hb
      go_wp2
      go_ret2
      exact ⟨_, rfl, HL.out, HB.out⟩
  · have hfin : all (bl s) = ([], y) := by
      unfold all
      rw [hy]
      simp [h0]
    rw [hfin]
    have hyb : (y != 0) = true := by simp [h0]
    have Hg := Lib.hid hg
    clear hg hfin hy
    go_enter Tryd.func70, Tryd.ntmps70
    go_wp2_with fail
    refine Hg.out.mono ?_
    rintro e w' ⟨v, rfl, hl, hb⟩
    have HL := Lib.hid hl
    have HB := Lib.hid hb
    clear hl hb
    go_wp2
    go_ret2
    exact ⟨_, rfl, ListAt.nil _ _, HB.out⟩

end Go.Proofs.YtfodloepkgkilaaDoor.OctA
