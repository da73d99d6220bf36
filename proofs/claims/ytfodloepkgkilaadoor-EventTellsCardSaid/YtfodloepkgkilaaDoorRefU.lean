/-
  WHAT IS PROVED: what the document's own answers on a user's and a room's server are. Condition: the text is not longer than each theorem says.
-/
import Derived.Test.YtfodloepkgkilaaDoorRefP
namespace Go.Proofs.YtfodloepkgkilaaDoor.RefU
open Go Go.RowKit Go.Proofs.YtfodloepkgkilaaDoor Go.Proofs.YtfodloepkgkilaaDoor.IdentS Go.Proofs.YtfodloepkgkilaaDoor.IdentP Go.Proofs.YtfodloepkgkilaaDoor.IdentQ Go.Proofs.YtfodloepkgkilaaDoor.RefP
set_option linter.unusedVariables false

set_option maxHeartbeats 1000000 in
theorem User_ok (w : World) (s : ByteArray) (hs : s.size ≤ 140737488351232) : Calls Tryd.prog 19 #[.string s] w (IdentR.ServPost (serverOf 1 (bl s)) w) := by
  have hp := Parse_ok w s hs
  cases he : IdentS.parse (bl s) with
  | none =>
    have hfin : serverOf 1 (bl s) = none := by unfold serverOf; rw [he]; rfl
    unfold ReadPost at hp
    rw [he] at hp
    rw [hfin]
    have Hp := Lib.hid hp
    clear hp he hfin
    go_enter Tryd.func19, Tryd.ntmps19
    go_wp2_with fail
    refine Hp.out.mono ?_
    rintro e w' ⟨rfl, hb⟩
    have HB := Lib.hid hb
    clear hb
    unfold readV
    go_wp2
    go_ret2
    exact ⟨rfl, HB.out.alloc HB.out.size _⟩
  | some x =>
    unfold ReadPost at hp
    rw [he] at hp
    by_cases hk : x.kind = 1
    · have hfin : serverOf 1 (bl s) = some x.server := by unfold serverOf; rw [he]; exact if_pos hk
      have hkb : (x.kind != 1) = false := by simp [hk]
      rw [hfin]
      have Hp := Lib.hid hp
      clear hp he hfin hk
      go_enter Tryd.func19, Tryd.ntmps19
      go_wp2_with fail
      refine Hp.out.mono ?_
      rintro e w' ⟨rfl, hb⟩
      have HB := Lib.hid hb
      clear hb
      unfold readV
      go_wp2
      go_ret2
      exact ⟨rfl, HB.out.alloc HB.out.size _⟩
    · have hfin : serverOf 1 (bl s) = none := by unfold serverOf; rw [he]; exact if_neg hk
      have hkb : (x.kind != 1) = true := by simp [hk]
      rw [hfin]
      have Hp := Lib.hid hp
      clear hp he hfin hk
      go_enter Tryd.func19, Tryd.ntmps19
      go_wp2_with fail
      refine Hp.out.mono ?_
      rintro e w' ⟨rfl, hb⟩
      have HB := Lib.hid hb
      clear hb
      unfold readV
      go_wp2
      go_ret2
      exact ⟨rfl, HB.out.alloc HB.out.size _⟩

set_option maxHeartbeats 1000000 in
theorem Room_ok (w : World) (s : ByteArray) (hs : s.size ≤ 140737488351232) : Calls Tryd.prog 21 #[.string s] w (IdentR.ServPost (serverOf 2 (bl s)) w) := by
  have hp := Parse_ok w s hs
  cases he : IdentS.parse (bl s) with
  | none =>
    have hfin : serverOf 2 (bl s) = none := by unfold serverOf; rw [he]; rfl
    unfold ReadPost at hp
    rw [he] at hp
    rw [hfin]
    have Hp := Lib.hid hp
    clear hp he hfin
    go_enter Tryd.func21, Tryd.ntmps21
    go_wp2_with fail
    refine Hp.out.mono ?_
    rintro e w' ⟨rfl, hb⟩
    have HB := Lib.hid hb
    clear hb
    unfold readV
    go_wp2
    go_ret2
    exact ⟨rfl, HB.out.alloc HB.out.size _⟩
  | some x =>
    unfold ReadPost at hp
    rw [he] at hp
    by_cases hk : x.kind = 2
    · have hfin : serverOf 2 (bl s) = some x.server := by unfold serverOf; rw [he]; exact if_pos hk
      have hkb : (x.kind != 2) = false := by simp [hk]
      rw [hfin]
      have Hp := Lib.hid hp
      clear hp he hfin hk
      go_enter Tryd.func21, Tryd.ntmps21
      go_wp2_with fail
      refine Hp.out.mono ?_
      rintro e w' ⟨rfl, hb⟩
      have HB := Lib.hid hb
      clear hb
      unfold readV
      go_wp2
      go_ret2
      exact ⟨rfl, HB.out.alloc HB.out.size _⟩
    · have hfin : serverOf 2 (bl s) = none := by unfold serverOf; rw [he]; exact if_neg hk
      have hkb : (x.kind != 2) = true := by simp [hk]
      rw [hfin]
      have Hp := Lib.hid hp
      clear hp he hfin hk
      go_enter Tryd.func21, Tryd.ntmps21
      go_wp2_with fail
      refine Hp.out.mono ?_
      rintro e w' ⟨rfl, hb⟩
      have HB := Lib.hid hb
      clear hb
      unfold readV
      go_wp2
      go_ret2
      exact ⟨rfl, HB.out.alloc HB.out.size _⟩

end Go.Proofs.YtfodloepkgkilaaDoor.RefU
