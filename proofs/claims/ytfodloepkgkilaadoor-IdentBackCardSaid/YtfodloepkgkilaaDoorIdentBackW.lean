/-
  WHAT IS PROVED: the statement's function that reads an identifier of its text answers true. Condition: the variables hold what 'VarsI' says, and the strings are not longer than the theorem says.
-/
import Derived.Test.YtfodloepkgkilaaDoorLives
namespace Go.Proofs.YtfodloepkgkilaaDoor.IdentBackW
open Go Go.RowKit Go.Proofs.YtfodloepkgkilaaDoor Go.Proofs.YtfodloepkgkilaaDoor.IdentS Go.Proofs.YtfodloepkgkilaaDoor.OctP Go.Proofs.YtfodloepkgkilaaDoor.IdentP Go.Proofs.YtfodloepkgkilaaDoor.IdentQ Go.Proofs.YtfodloepkgkilaaDoor.IdentR Go.Proofs.YtfodloepkgkilaaDoor.Lives
set_option linter.unusedVariables false
attribute [local go_sem] EqIdent.eqIdent
attribute [-go_sem] run_equalIn_agg

def RB (v : Value) (w : World) (e : Ending) (w' : World) : Prop := e = .returned v ∧ Below w.heap.size w w'

set_option maxRecDepth 100000 in
set_option maxHeartbeats 4000000 in
theorem back_ok (w : World) (hv : VarsI w) (k : Int) (nm : ByteArray) (sv : Int) (text : ByteArray) (hn : nm.size ≤ maxLen) (ht : text.size ≤ 140737488351232) :
    Calls Tryd.prog 4 #[.agg #[.int .u8 k, .string nm, .int .i64 sv], .string text] w (True_ w) := by
  have h1 : (∃ S, (∀ w, VarsI w → Calls Tryd.prog 14 #[.agg #[.int .u8 k, .string nm, .int .i64 sv]] w (RB (.tuple #[.string S, .int .i64 0]) w)) ∧ (∀ w, VarsI w → Calls Tryd.prog 16 #[.string S] w (RB (.tuple #[.agg #[.int .u8 k, .string nm, .int .i64 sv], .int .i64 0]) w)))
      ∨ ((∀ w, VarsI w → Calls Tryd.prog 14 #[.agg #[.int .u8 k, .string nm, .int .i64 sv]] w (RB (.tuple #[.string ByteArray.empty, .int .i64 2]) w)) ∧ (∀ w, VarsI w → Calls Tryd.prog 16 #[.string ByteArray.empty] w (RB (.tuple #[.agg #[.int .u8 0, .string ByteArray.empty, .int .i64 0], .int .i64 6]) w))) := by
    cases h : okB (idOf k nm sv)
    · refine .inr ⟨fun w _ => Text_no w k nm sv hn h, fun w hv => ?_⟩
      exact Parse_ok w ByteArray.empty hv (by decide)
    · refine .inl ⟨bsOf (textOf (idOf k nm sv)), fun w hv => Text_ok w k nm sv hv h, fun w hv => ?_⟩
      have hl := text_length h
      have hp := Parse_ok w (bsOf (textOf (idOf k nm sv))) hv (by rw [size_bsOf]; omega)
      unfold ReadPost at hp
      rw [bl_bsOf, parse_text h] at hp
      unfold readV at hp
      have hb : bsOf (idOf k nm sv).name = nm := bsOf_bl nm
      rw [show (some (idOf k nm sv) : Option Idn) = some (idOf k nm sv) from rfl] at hp
      simp only [hb] at hp
      exact hp
  have h2 : ((∀ w, VarsI w → Calls Tryd.prog 16 #[.string text] w (RB (.tuple #[.agg #[.int .u8 0, .string ByteArray.empty, .int .i64 0], .int .i64 6]) w)) ∧ (∀ w, VarsI w → Calls Tryd.prog 14 #[.agg #[.int .u8 0, .string ByteArray.empty, .int .i64 0]] w (RB (.tuple #[.string ByteArray.empty, .int .i64 2]) w))
        ∧ (∀ w, VarsI w → Calls Tryd.prog 18 #[.string text] w (RB (.tuple #[.int .i64 0, .bool false]) w)) ∧ (∀ w, VarsI w → Calls Tryd.prog 20 #[.string text] w (RB (.tuple #[.int .i64 0, .bool false]) w)))
      ∨ (∃ (k3 : Int) (n3 : ByteArray) (s3 : Int), (∀ w, VarsI w → Calls Tryd.prog 16 #[.string text] w (RB (.tuple #[.agg #[.int .u8 k3, .string n3, .int .i64 s3], .int .i64 0]) w)) ∧ (∀ w, VarsI w → Calls Tryd.prog 14 #[.agg #[.int .u8 k3, .string n3, .int .i64 s3]] w (RB (.tuple #[.string text, .int .i64 0]) w))
        ∧ (((∀ w, VarsI w → Calls Tryd.prog 18 #[.string text] w (RB (.tuple #[.int .i64 s3, .bool true]) w)) ∧ (∀ w, VarsI w → Calls Tryd.prog 20 #[.string text] w (RB (.tuple #[.int .i64 0, .bool false]) w)))
          ∨ ((∀ w, VarsI w → Calls Tryd.prog 18 #[.string text] w (RB (.tuple #[.int .i64 0, .bool false]) w)) ∧ (∀ w, VarsI w → Calls Tryd.prog 20 #[.string text] w (RB (.tuple #[.int .i64 s3, .bool true]) w))))) := by
    have hu := fun w hv => User_ok w text hv ht
    have hr := fun w hv => Room_ok w text hv ht
    have hp := fun w hv => Parse_ok w text hv ht
    unfold ServPost at hu hr
    unfold ReadPost at hp
    cases h : IdentS.parse (bl text) with
    | none =>
      have e1 : serverOf 1 (bl text) = none := by unfold serverOf; rw [h]; rfl
      have e2 : serverOf 2 (bl text) = none := by unfold serverOf; rw [h]; rfl
      rw [h] at hp
      rw [e1] at hu
      rw [e2] at hr
      exact .inl ⟨hp, fun w _ => Text_no w 0 ByteArray.empty 0 (by decide) (by decide +kernel), hu, hr⟩
    | some y =>
      obtain ⟨oy, ty⟩ := parse_iff.1 h
      obtain ⟨ky, _, _, _⟩ := ok_spec oy
      have hy : idOf y.kind (bsOf y.name) y.server = y := by unfold idOf; rw [bl_bsOf]
      rw [h] at hp
      refine .inr ⟨y.kind, bsOf y.name, y.server, hp, fun w hv => ?_, ?_⟩
      · have := Text_ok w y.kind (bsOf y.name) y.server hv (by rw [hy]; exact oy)
        rw [hy, ← ty, bsOf_bl] at this
        exact this
      · rcases ky with ky | ky
        · have e1 : serverOf 1 (bl text) = some y.server := by unfold serverOf; rw [h]; simp [ky]
          have e2 : serverOf 2 (bl text) = none := by unfold serverOf; rw [h]; simp [ky]
          rw [e1] at hu
          rw [e2] at hr
          exact .inl ⟨hu, hr⟩
        · have e1 : serverOf 1 (bl text) = none := by unfold serverOf; rw [h]; simp [ky]
          have e2 : serverOf 2 (bl text) = some y.server := by unfold serverOf; rw [h]; simp [ky]
          rw [e1] at hu
          rw [e2] at hr
          exact .inr ⟨hu, hr⟩
  have hB0 : Below w.heap.size w (w.alloc (.cells #[.int .u8 k, .string nm, .int .i64 sv] 24)) := (Below.refl _ w).alloc (Nat.le_refl _) _
  have hV0 := hv.below hB0
  have hx0 : (w.alloc (.cells #[.int .u8 k, .string nm, .int .i64 sv] 24)).heap[w.heap.size]? = some (.cells #[.int .u8 k, .string nm, .int .i64 sv] 24 (0, 0)) := heap_new _ _
  obtain ⟨w0, hw0⟩ : ∃ w0, w0 = w.alloc (.cells #[.int .u8 k, .string nm, .int .i64 sv] 24) := ⟨_, rfl⟩
  rw [← hw0] at hB0 hV0 hx0
  have HB0 := Lib.hid hB0
  have HV0 := Lib.hid hV0
  have Hw0 := Lib.hid hw0
  have hl0 := lt_row hx0
  have hG := guardIdent
  clear hB0 hV0 hw0 hv hn ht
  have hcase : True := trivial
  rcases h1 with ⟨S, h1, h3⟩ | ⟨h1, h3⟩ <;> rcases h2 with ⟨h4, h5, h6, h7⟩ | ⟨k3, n3, s3, h4, h5, ⟨h6, h7⟩ | ⟨h6, h7⟩⟩
  all_goals
    have H1 := Lib.hid h1
    have H3 := Lib.hid h3
    have H4 := Lib.hid h4
    have H5 := Lib.hid h5
    have H6 := Lib.hid h6
    have H7 := Lib.hid h7
    clear h1 h3 h4 h5 h6 h7
    go_enter Tryd.func4, Tryd.ntmps4
    go_wp2_with fail
    rw [show (w.alloc (.cells #[.int .u8 k, .string nm, .int .i64 sv] 24)) = w0 from Hw0.out.symm]
    refine (lives_ok w0 HV0.out).mono ?_
    rintro e w1 ⟨rfl, hb⟩
    have HV1 := Lib.hid (HV0.out.below hb)
    have HB1 := Lib.hid (HB0.out.trans (hb.mono HB0.out.size))
    have hx1 := (hb.block _ hl0).trans hx0
    have hl1 := lt_row hx1
    clear hb
    obtain ⟨hc1, hf1⟩ := row_facts hx1
    go_wp2_with fail
    refine (H1.out w1 HV1.out).mono ?_
    rintro e w2 ⟨rfl, hb⟩
    have HV2 := Lib.hid (HV1.out.below hb)
    have HB2 := Lib.hid (HB1.out.trans (hb.mono HB1.out.size))
    have hx2 := (hb.block _ hl1).trans hx1
    have hl2 := lt_row hx2
    clear hb hc1 hf1
    go_wp2_with fail
    refine (H3.out w2 HV2.out).mono ?_
    rintro e w3 ⟨rfl, hb⟩
    have HV3 := Lib.hid (HV2.out.below hb)
    have HB3 := Lib.hid (HB2.out.trans (hb.mono HB2.out.size))
    have hx3 := (hb.block _ hl2).trans hx2
    have hl3 := lt_row hx3
    clear hb
    go_wp2_with fail
    refine (H4.out _ (HV3.out.below ((Below.refl _ w3).alloc (Nat.le_refl _) _))).mono ?_
    rintro e w4 ⟨rfl, hb⟩
    have HV4 := Lib.hid ((HV3.out.below ((Below.refl _ w3).alloc (Nat.le_refl _) _)).below hb)
    have HB4 := Lib.hid ((HB3.out.alloc HB3.out.size _).trans (hb.mono (HB3.out.alloc HB3.out.size _).size))
    have hx4 := (hb.block w.heap.size (by simp; omega)).trans ((Below.heap_alloc _ _ _ hl3).trans hx3)
    have hy4 := (hb.block w3.heap.size (by simp)).trans (heap_new _ _)
    have hl4 := lt_row hx4
    have hm4 := lt_row hy4
    clear hb
    go_wp2_with fail
    refine (H5.out _ (HV4.out.below ((Below.refl _ w4).alloc (Nat.le_refl _) _))).mono ?_
    rintro e w5 ⟨rfl, hb⟩
    have HV5 := Lib.hid ((HV4.out.below ((Below.refl _ w4).alloc (Nat.le_refl _) _)).below hb)
    have HB5 := Lib.hid ((HB4.out.alloc HB4.out.size _).trans (hb.mono (HB4.out.alloc HB4.out.size _).size))
    have hx5 := (hb.block w.heap.size (by simp; omega)).trans ((Below.heap_alloc _ _ _ hl4).trans hx4)
    have hy5 := (hb.block w3.heap.size (by simp; omega)).trans ((Below.heap_alloc _ _ _ hm4).trans hy4)
    have hl5 := lt_row hx5
    have hm5 := lt_row hy5
    clear hb
    go_wp2_with fail
    refine (H6.out _ HV5.out).mono ?_
    rintro e w6 ⟨rfl, hb⟩
    have HV6 := Lib.hid (HV5.out.below hb)
    have HB6 := Lib.hid (HB5.out.trans (hb.mono HB5.out.size))
    have hx6 := (hb.block _ hl5).trans hx5
    have hy6 := (hb.block _ hm5).trans hy5
    have hl6 := lt_row hx6
    have hm6 := lt_row hy6
    clear hb
    go_wp2_with fail
    refine (H7.out _ HV6.out).mono ?_
    rintro e w7 ⟨rfl, hb⟩
    have HB7 := Lib.hid (HB6.out.trans (hb.mono HB6.out.size))
    have hx7 := (hb.block _ hl6).trans hx6
    have hy7 := (hb.block _ hm6).trans hy6
    have hl7 := lt_row hx7
    have hm7 := lt_row hy7
    obtain ⟨hc, hf⟩ := row_facts hx7
    obtain ⟨hc', hf'⟩ := row_facts hy7
    clear hb
    go_wp2
    go_ret
    exact ⟨rfl, HB7.out⟩

end Go.Proofs.YtfodloepkgkilaaDoor.IdentBackW
