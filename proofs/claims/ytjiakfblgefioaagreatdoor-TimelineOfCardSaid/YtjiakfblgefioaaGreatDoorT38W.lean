/-
  WHAT IS PROVED: the statement's function that asks whether any entries have their lines, and were taken back, as they were, answers true. Condition: the variables hold what 'VarsR' says, and the entries' bytes are not longer than the theorem says.
-/
import Derived.Test.YtjiakfblgefioaaGreatDoorTlives
import Derived.Test.YtjiakfblgefioaaGreatDoorT38P
namespace Go.Proofs.YtjiakfblgefioaaGreatDoor.T38W
open Go Go.RowKit Go.Shelf Go.Proofs.YtjiakfblgefioaaGreatDoor Go.Proofs.YtjiakfblgefioaaGreatDoor.OctP Go.Proofs.YtjiakfblgefioaaGreatDoor.IdentP Go.Proofs.YtjiakfblgefioaaGreatDoor.EventP Go.Proofs.YtjiakfblgefioaaGreatDoor.RedA Go.Proofs.YtjiakfblgefioaaGreatDoor.RowsX Go.Proofs.YtjiakfblgefioaaGreatDoor.Tline Go.Proofs.YtjiakfblgefioaaGreatDoor.Tlist Go.Proofs.YtjiakfblgefioaaGreatDoor.Tread Go.Proofs.YtjiakfblgefioaaGreatDoor.Tof Go.Proofs.YtjiakfblgefioaaGreatDoor.Tgone Go.Proofs.YtjiakfblgefioaaGreatDoor.Tlives Go.Proofs.YtjiakfblgefioaaGreatDoor.T38O Go.Proofs.YtjiakfblgefioaaGreatDoor.T38P
set_option linter.unusedVariables false
set_option linter.unusedSimpArgs false

set_option maxRecDepth 100000 in
set_option maxHeartbeats 4000000 in
theorem of_ok (w : World) (hv : VarsR w) (v : Value) (L : List En) (hs : Sl w v 37 L.length (enV L)) (hb : ∀ x ∈ L, x.ev.size ≤ 140737488351232) :
    Calls Tryz.prog 4 #[v] w (RB (.bool true) w) := by
  obtain ⟨a, cap, rfl, hcap, hm⟩ := hs.form
  have hlen : L.length ≤ 9223372036854775807 := by unfold maxLen at hm; omega
  have HS := Lib.hid hs
  have HV := Lib.hid hv
  have HBd := Lib.hid hb
  clear hs hv hb hcap hm
  by_cases h60 : 60 < (L.length : Int)
  · go_enter Tryz.func4, Tryz.ntmps4
    go_wp2_with fail
    refine (lives_ok w HV.out).mono ?_
    rintro e w1 ⟨rfl, hb⟩
    have HB1 := Lib.hid hb
    clear hb
    go_wp2
    go_ret
    exact ⟨rfl, HB1.out⟩
  · have hl : L.length ≤ 1099511627776 := by omega
    go_enter Tryz.func4, Tryz.ntmps4
    go_wp2_with fail
    refine (lives_ok w HV.out).mono ?_
    rintro e w1 ⟨rfl, hb⟩
    have HB1 := Lib.hid hb
    have HS1 := Lib.hid (HS.out.below hb)
    have HV1 := Lib.hid (HV.out.below hb)
    clear hb
    go_wp2_with fail
    refine (Of_ok w1 _ L HS1.out HV1.out HBd.out hl).mono ?_
    rintro e w2 ⟨v2, rfl, hA⟩
    have hb := hA.bel
    have HX2 := Lib.hid hA.sl
    clear hA
    have HB2 := Lib.hid (HB1.out.trans (hb.mono HB1.out.size))
    have HS2 := Lib.hid (HS1.out.below hb)
    have HV2 := Lib.hid (HV1.out.below hb)
    clear hb
    go_wp2_with fail
    refine (refOf_ok w2 _ L HS2.out HBd.out hl).mono ?_
    rintro e w3 ⟨v3, rfl, hA⟩
    have hb := hA.bel
    have HX3 := Lib.hid hA.sl
    clear hA
    have HB3 := Lib.hid (HB2.out.trans (hb.mono HB2.out.size))
    have HS3 := Lib.hid (HS2.out.below hb)
    have HV3 := Lib.hid (HV2.out.below hb)
    have HY3 := Lib.hid (HX2.out.below hb)
    clear hb
    go_wp2_with fail
    refine (Tlist.Same_ok w3 _ _ _ HY3.out HX3.out).mono ?_
    rintro e w4 ⟨rfl, hb⟩
    have HB4 := Lib.hid (HB3.out.trans (hb.mono HB3.out.size))
    have HS4 := Lib.hid (HS3.out.below hb)
    have HV4 := Lib.hid (HV3.out.below hb)
    clear hb
    go_wp2_with fail
    refine (Gone_ok w4 _ L HS4.out HV4.out HBd.out hl).mono ?_
    rintro e w5 ⟨v5, rfl, hA⟩
    have hb := hA.bel
    have HX5 := Lib.hid hA.sl
    clear hA
    have HB5 := Lib.hid (HB4.out.trans (hb.mono HB4.out.size))
    have HS5 := Lib.hid (HS4.out.below hb)
    have HV5 := Lib.hid (HV4.out.below hb)
    clear hb
    go_wp2_with fail
    refine (refGone_ok w5 _ L HS5.out HBd.out hl).mono ?_
    rintro e w6 ⟨v6, rfl, hA⟩
    have hb := hA.bel
    have HX6 := Lib.hid hA.sl
    clear hA
    have HB6 := Lib.hid (HB5.out.trans (hb.mono HB5.out.size))
    have HS6 := Lib.hid (HS5.out.below hb)
    have HV6 := Lib.hid (HV5.out.below hb)
    have HY6 := Lib.hid (HX5.out.below hb)
    clear hb
    go_wp2_with fail
    refine (Tgone.Same_ok w6 _ _ _ HY6.out HX6.out).mono ?_
    rintro e w7 ⟨rfl, hb⟩
    have HB7 := Lib.hid (HB6.out.trans (hb.mono HB6.out.size))
    have HS7 := Lib.hid (HS6.out.below hb)
    have HV7 := Lib.hid (HV6.out.below hb)
    clear hb
    go_wp2
    go_ret
    exact ⟨rfl, HB7.out⟩

end Go.Proofs.YtjiakfblgefioaaGreatDoor.T38W
