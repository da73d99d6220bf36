/-
  WHAT IS PROVED: the statements' own check of the identifiers answers true, and so does the statement's function that reads an identifier of its text. Condition: the variables hold what 'VarsI' says, and the strings are not longer than each theorem says.
-/
import Derived.Test.YtfodloepkgkilaaDoorIdentR
import Derived.Test.YtfodloepkgkilaaDoorEqIdent
namespace Go.Proofs.YtfodloepkgkilaaDoor.Lives
open Go Go.RowKit Go.Proofs.YtfodloepkgkilaaDoor Go.Proofs.YtfodloepkgkilaaDoor.IdentS Go.Proofs.YtfodloepkgkilaaDoor.OctP Go.Proofs.YtfodloepkgkilaaDoor.IdentP Go.Proofs.YtfodloepkgkilaaDoor.IdentQ Go.Proofs.YtfodloepkgkilaaDoor.IdentR
set_option linter.unusedVariables false
attribute [local go_sem] EqIdent.eqIdent
attribute [-go_sem] run_equalIn_agg
theorem guardIdent : Go.Program.eqGuardType Tryd.prog Tryd.prog.depth 24 = false := by kernel_rfl

def True_ (w : World) (e : Ending) (w' : World) : Prop := e = .returned (.bool true) ∧ Below w.heap.size w w'

theorem t1 (w : World) (hv : VarsI w) : Calls Tryd.prog 14 #[.agg #[.int .u8 1, .string ⟨#[97, 110, 110]⟩, .int .i64 3]] w fun e w' => e = .returned (.tuple #[.string ⟨#[64, 97, 110, 110, 58, 51]⟩, .int .i64 0]) ∧ Below w.heap.size w w' :=
  Text_ok w 1 ⟨#[97, 110, 110]⟩ 3 hv (by decide +kernel)
theorem t2 (w : World) (hv : VarsI w) : Calls Tryd.prog 16 #[.string ⟨#[33, 104, 97, 108, 108, 58, 48]⟩] w fun e w' => e = .returned (.tuple #[.agg #[.int .u8 2, .string ⟨#[104, 97, 108, 108]⟩, .int .i64 0], .int .i64 0]) ∧ Below w.heap.size w w' := by
  have h := Parse_ok w ⟨#[33, 104, 97, 108, 108, 58, 48]⟩ hv (by decide)
  have e : IdentS.parse (bl ⟨#[33, 104, 97, 108, 108, 58, 48]⟩) = some ⟨2, [104, 97, 108, 108], 0⟩ := parse_iff.2 ⟨by decide +kernel, by decide +kernel⟩
  unfold ReadPost at h
  rw [e] at h
  exact h
theorem t3 (w : World) (hv : VarsI w) : Calls Tryd.prog 16 #[.string ⟨#[64, 97, 110, 110, 58, 48, 51]⟩] w fun e w' => e = .returned (.tuple #[.agg #[.int .u8 0, .string ByteArray.empty, .int .i64 0], .int .i64 6]) ∧ Below w.heap.size w w' := by
  have h := Parse_ok w ⟨#[64, 97, 110, 110, 58, 48, 51]⟩ hv (by decide)
  have e : IdentS.parse (bl ⟨#[64, 97, 110, 110, 58, 48, 51]⟩) = none := by
    unfold IdentS.parse
    exact if_neg (by decide +kernel)
  unfold ReadPost at h
  rw [e] at h
  exact h
theorem t4 (w : World) : Calls Tryd.prog 14 #[.agg #[.int .u8 1, .string ByteArray.empty, .int .i64 0]] w fun e w' => e = .returned (.tuple #[.string ByteArray.empty, .int .i64 2]) ∧ Below w.heap.size w w' :=
  Text_no w 1 ByteArray.empty 0 (by decide) (by decide +kernel)
theorem annParse : IdentS.parse (bl ⟨#[64, 97, 110, 110, 58, 51]⟩) = some ⟨1, [97, 110, 110], 3⟩ := parse_iff.2 ⟨by decide +kernel, by decide +kernel⟩
theorem t5 (w : World) (hv : VarsI w) : Calls Tryd.prog 18 #[.string ⟨#[64, 97, 110, 110, 58, 51]⟩] w fun e w' => e = .returned (.tuple #[.int .i64 3, .bool true]) ∧ Below w.heap.size w w' := by
  have h := User_ok w ⟨#[64, 97, 110, 110, 58, 51]⟩ hv (by decide)
  have e : serverOf 1 (bl ⟨#[64, 97, 110, 110, 58, 51]⟩) = some 3 := by unfold serverOf; rw [annParse]; rfl
  unfold ServPost at h
  rw [e] at h
  exact h
theorem t6 (w : World) (hv : VarsI w) : Calls Tryd.prog 20 #[.string ⟨#[64, 97, 110, 110, 58, 51]⟩] w fun e w' => e = .returned (.tuple #[.int .i64 0, .bool false]) ∧ Below w.heap.size w w' := by
  have h := Room_ok w ⟨#[64, 97, 110, 110, 58, 51]⟩ hv (by decide)
  have e : serverOf 2 (bl ⟨#[64, 97, 110, 110, 58, 51]⟩) = none := by unfold serverOf; rw [annParse]; rfl
  unfold ServPost at h
  rw [e] at h
  exact h

set_option maxRecDepth 100000 in
set_option maxHeartbeats 2000000 in
theorem lives_ok (w : World) (hv : VarsI w) : Calls Tryd.prog 13 #[] w (True_ w) := by
  have HV := Lib.hid hv
  clear hv
  go_enter Tryd.func13, Tryd.ntmps13
  go_wp2_with fail
  refine (t1 w HV.out).mono ?_
  rintro e w1 ⟨rfl, hb1⟩
  have HB1 := Lib.hid hb1
  have HV1 := Lib.hid (HV.out.below hb1)
  clear hb1
  go_wp2_with fail
  refine (t2 w1 HV1.out).mono ?_
  rintro e w2 ⟨rfl, hb2⟩
  have HB2 := Lib.hid (Bl.call HB1.out hb2)
  have HV2 := Lib.hid (HV1.out.below hb2)
  clear hb2
  go_wp2_with fail
  have HV3 := Lib.hid (HV2.out.below ((Below.refl _ w2).alloc (Nat.le_refl _) (.cells #[.int .u8 2, .string ⟨#[104, 97, 108, 108]⟩, .int .i64 0] 24)))
  refine (t3 _ HV3.out).mono ?_
  rintro e w3 ⟨rfl, hb3⟩
  have hx3 : w3.heap[w2.heap.size]? = some (.cells #[.int .u8 2, .string ⟨#[104, 97, 108, 108]⟩, .int .i64 0] 24 (0, 0)) := (hb3.block _ (by simp)).trans (heap_new _ _)
  have HV4 := Lib.hid (HV3.out.below hb3)
  have HB3 := Lib.hid (Bl.call (HB2.out.alloc HB2.out.size _) hb3)
  clear hb3 HB2 HB1 HV3
  go_wp2_with fail
  have hl3 := lt_row hx3
  have HV5 := Lib.hid (HV4.out.below ((Below.refl _ w3).alloc (Nat.le_refl _) (.cells #[.int .u8 0, .string ByteArray.empty, .int .i64 0] 24)))
  refine (t4 _).mono ?_
  rintro e w4 ⟨rfl, hb4⟩
  have hx4 : w4.heap[w2.heap.size]? = some (.cells #[.int .u8 2, .string ⟨#[104, 97, 108, 108]⟩, .int .i64 0] 24 (0, 0)) := (hb4.block _ (by simp; omega)).trans ((Below.heap_alloc _ _ _ hl3).trans hx3)
  have HV6 := Lib.hid (HV5.out.below hb4)
  have HB4 := Lib.hid (Bl.call (HB3.out.alloc HB3.out.size _) hb4)
  clear hb4 hx3 HV5 HB3
  have hl4 := lt_row hx4
  go_wp2_with fail
  refine (t5 _ HV6.out).mono ?_
  rintro e w5 ⟨rfl, hb5⟩
  have hx5 := (hb5.block _ hl4).trans hx4
  have HV7 := Lib.hid (HV6.out.below hb5)
  have HB5 := Lib.hid (Bl.call HB4.out hb5)
  clear hb5 hx4 HV6 HB4
  have hl5 := lt_row hx5
  go_wp2_with fail
  refine (t6 _ HV7.out).mono ?_
  rintro e w6 ⟨rfl, hb6⟩
  have hx6 := (hb6.block _ hl5).trans hx5
  have HB6 := Lib.hid (Bl.call HB5.out hb6)
  obtain ⟨hcell, hfroz⟩ := row_facts hx6
  have hl6 := lt_row hx6
  clear hb6 hx5 HB5
  have hG := guardIdent
  go_wp2
  go_ret
  exact ⟨rfl, HB6.out⟩

end Go.Proofs.YtfodloepkgkilaaDoor.Lives
