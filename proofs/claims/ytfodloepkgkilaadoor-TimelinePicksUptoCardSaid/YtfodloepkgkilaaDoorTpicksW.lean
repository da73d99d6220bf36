/-
  WHAT IS PROVED: the statement's function that asks whether of any lines the last ones, a sender's, and their text are told answers true. Condition: the variables hold what 'VarsR' says, and the lines' bytes are not more than the theorem says.
-/
import Derived.Test.YtfodloepkgkilaaDoorTlives
import Derived.Test.YtfodloepkgkilaaDoorTref
namespace Go.Proofs.YtfodloepkgkilaaDoor.TpicksW
open Go Go.RowKit Go.Shelf Go.Proofs.YtfodloepkgkilaaDoor Go.Proofs.YtfodloepkgkilaaDoor.OctP Go.Proofs.YtfodloepkgkilaaDoor.IdentP Go.Proofs.YtfodloepkgkilaaDoor.EventP Go.Proofs.YtfodloepkgkilaaDoor.RedA Go.Proofs.YtfodloepkgkilaaDoor.RowsX Go.Proofs.YtfodloepkgkilaaDoor.TimelineS Go.Proofs.YtfodloepkgkilaaDoor.Tline Go.Proofs.YtfodloepkgkilaaDoor.Tlist Go.Proofs.YtfodloepkgkilaaDoor.Tlives
set_option linter.unusedVariables false
set_option linter.unusedSimpArgs false

set_option maxRecDepth 100000 in
set_option maxHeartbeats 4000000 in
theorem picks_ok (w : World) (hv : VarsR w) (v : Value) (l : List Ln) (n : Int) (s : ByteArray) (hs : Sl w v 4 l.length (lnV l)) (hT : l.length ≤ 200 → (textsOf (l.map Ln.p)).length ≤ 140737488351232) :
    Calls Tryd.prog 10 #[v, .int .i64 n, .string s] w (RB (.bool true) w) := by
  obtain ⟨a, cap, rfl, hcap, hm⟩ := hs.form
  have hlen : l.length ≤ 9223372036854775807 := by unfold maxLen at hm; omega
  have HS := Lib.hid hs
  have HV := Lib.hid hv
  have HT := Lib.hid hT
  clear hs hv hcap hm hT
  by_cases h200 : 200 < (l.length : Int)
  · go_enter Tryd.func10, Tryd.ntmps10
    go_wp2_with fail
    refine (lives_ok w HV.out).mono ?_
    rintro e w1 ⟨rfl, hb⟩
    have HB1 := Lib.hid hb
    clear hb
    go_wp2
    go_ret
    exact ⟨rfl, HB1.out⟩
  · have hl : l.length ≤ 1099511627776 := by omega
    have h2 : l.length ≤ 200 := by omega
    go_enter Tryd.func10, Tryd.ntmps10
    go_wp2_with fail
    refine (lives_ok w HV.out).mono ?_
    rintro e w1 ⟨rfl, hb⟩
    have HB1 := Lib.hid hb
    have HS1 := Lib.hid (HS.out.below hb)
    clear hb
    go_wp2_with fail
    refine (Last_ok w1 _ l n HS1.out hl).mono ?_
    rintro e w2 ⟨v2, rfl, hA⟩
    have HB2 := Lib.hid (HB1.out.trans (hA.bel.mono HB1.out.size))
    have HS2 := Lib.hid (HS1.out.below hA.bel)
    have HX2 := Lib.hid hA.sl
    clear hA
    go_wp2_with fail
    refine (refLast_ok w2 _ l n HS2.out hl).mono ?_
    rintro e w3 ⟨v3, rfl, hA⟩
    have HB3 := Lib.hid (HB2.out.trans (hA.bel.mono HB2.out.size))
    have HS3 := Lib.hid (HS2.out.below hA.bel)
    have HX3 := Lib.hid (HX2.out.below hA.bel)
    have HY3 := Lib.hid hA.sl
    clear hA
    go_wp2_with fail
    refine (Tlist.Same_ok w3 _ _ _ HX3.out HY3.out).mono ?_
    rintro e w4 ⟨rfl, hb⟩
    have HB4 := Lib.hid (HB3.out.trans (hb.mono HB3.out.size))
    have HS4 := Lib.hid (HS3.out.below hb)
    clear hb
    go_wp2_with fail
    refine (By_ok w4 _ l s HS4.out hl).mono ?_
    rintro e w5 ⟨v5, rfl, hA⟩
    have HB5 := Lib.hid (HB4.out.trans (hA.bel.mono HB4.out.size))
    have HS5 := Lib.hid (HS4.out.below hA.bel)
    have HX5 := Lib.hid hA.sl
    clear hA
    go_wp2_with fail
    refine (refBy_ok w5 _ l s HS5.out hl).mono ?_
    rintro e w6 ⟨v6, rfl, hA⟩
    have HB6 := Lib.hid (HB5.out.trans (hA.bel.mono HB5.out.size))
    have HS6 := Lib.hid (HS5.out.below hA.bel)
    have HX6 := Lib.hid (HX5.out.below hA.bel)
    have HY6 := Lib.hid hA.sl
    clear hA
    go_wp2_with fail
    refine (Tlist.Same_ok w6 _ _ _ HX6.out HY6.out).mono ?_
    rintro e w7 ⟨rfl, hb⟩
    have HB7 := Lib.hid (HB6.out.trans (hb.mono HB6.out.size))
    have HS7 := Lib.hid (HS6.out.below hb)
    clear hb
    go_wp2_with fail
    have hT1 := Tline.Text_ok w7 _ l HS7.out (HT.out h2)
    have hT2 := fun w8 hs => Tref.Text_ok w8 (.slice a l.length cap) l hs (HT.out h2)
    obtain ⟨X, hX⟩ : ∃ X, X = bsOf (textsOf (l.map Ln.p)) := ⟨_, rfl⟩
    rw [← hX] at hT1 hT2
    have HT2 := Lib.hid hT2
    clear hX hT2
    refine hT1.mono ?_
    rintro e w8 ⟨rfl, hb⟩
    have HB8 := Lib.hid (HB7.out.trans (hb.mono HB7.out.size))
    have HS8 := Lib.hid (HS7.out.below hb)
    clear hb hT1
    go_wp2_with fail
    refine (HT2.out w8 HS8.out).mono ?_
    rintro e w9 ⟨rfl, hb⟩
    have HB9 := Lib.hid (HB8.out.trans (hb.mono HB8.out.size))
    clear hb
    go_wp2
    go_ret
    exact ⟨rfl, HB9.out⟩

end Go.Proofs.YtfodloepkgkilaaDoor.TpicksW
