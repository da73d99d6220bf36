/-
  WHAT IS PROVED: the statement's function that compares the identifiers with the document's own answers answers true. Condition: the variables hold what 'VarsI' says, and the strings are not longer than the theorem says.
-/
import Derived.Test.YtfodloepkgkilaaDoorLives
import Derived.Test.YtfodloepkgkilaaDoorRefU
namespace Go.Proofs.YtfodloepkgkilaaDoor.IdentTellsW
open Go Go.RowKit Go.Proofs.YtfodloepkgkilaaDoor Go.Proofs.YtfodloepkgkilaaDoor.IdentS Go.Proofs.YtfodloepkgkilaaDoor.OctP Go.Proofs.YtfodloepkgkilaaDoor.IdentP Go.Proofs.YtfodloepkgkilaaDoor.IdentQ Go.Proofs.YtfodloepkgkilaaDoor.IdentR Go.Proofs.YtfodloepkgkilaaDoor.Lives
set_option linter.unusedVariables false
attribute [local go_sem] EqIdent.eqIdent
attribute [-go_sem] run_equalIn_agg

def RB (v : Value) (w : World) (e : Ending) (w' : World) : Prop := e = .returned v ∧ Below w.heap.size w w'

set_option maxRecDepth 100000 in
set_option maxHeartbeats 4000000 in
theorem tells_ok (w : World) (hv : VarsI w) (k : Int) (nm : ByteArray) (sv : Int) (text : ByteArray) (hn : nm.size ≤ maxLen) (ht : text.size ≤ 140737488351232) :
    Calls Tryd.prog 3 #[.agg #[.int .u8 k, .string nm, .int .i64 sv], .string text] w (True_ w) := by
  have h1 : ∃ (S : ByteArray) (E : Int), (∀ w, VarsI w → Calls Tryd.prog 14 #[.agg #[.int .u8 k, .string nm, .int .i64 sv]] w (RB (.tuple #[.string S, .int .i64 E]) w)) ∧ (∀ w, Calls Tryd.prog 15 #[.agg #[.int .u8 k, .string nm, .int .i64 sv]] w (RB (.tuple #[.string S, .int .i64 E]) w)) := by
    cases h : okB (idOf k nm sv)
    · exact ⟨ByteArray.empty, 2, fun w _ => Text_no w k nm sv hn h, fun w => RefT.Text_no w k nm sv hn h⟩
    · exact ⟨_, 0, fun w hv => Text_ok w k nm sv hv h, fun w => RefT.Text_ok w k nm sv h⟩
  have h2 : ∃ (k3 : Int) (n3 : ByteArray) (s3 E3 : Int), (∀ w, VarsI w → Calls Tryd.prog 16 #[.string text] w (RB (.tuple #[.agg #[.int .u8 k3, .string n3, .int .i64 s3], .int .i64 E3]) w)) ∧ (∀ w, Calls Tryd.prog 17 #[.string text] w (RB (.tuple #[.agg #[.int .u8 k3, .string n3, .int .i64 s3], .int .i64 E3]) w)) := by
    have hp := fun w hv => Parse_ok w text hv ht
    have hq := fun w => RefP.Parse_ok w text ht
    unfold ReadPost at hp hq
    cases h : IdentS.parse (bl text) with
    | none =>
      rw [h] at hp hq
      exact ⟨0, ByteArray.empty, 0, 6, hp, hq⟩
    | some y =>
      rw [h] at hp hq
      exact ⟨y.kind, bsOf y.name, y.server, 0, hp, hq⟩
  have h3 : ∃ (n : Int) (b : Bool), (∀ w, VarsI w → Calls Tryd.prog 18 #[.string text] w (RB (.tuple #[.int .i64 n, .bool b]) w)) ∧ (∀ w, Calls Tryd.prog 19 #[.string text] w (RB (.tuple #[.int .i64 n, .bool b]) w)) := by
    have hp := fun w hv => User_ok w text hv ht
    have hq := fun w => RefU.User_ok w text ht
    unfold ServPost at hp hq
    cases h : serverOf 1 (bl text) with
    | none =>
      rw [h] at hp hq
      exact ⟨0, false, hp, hq⟩
    | some y =>
      rw [h] at hp hq
      exact ⟨y, true, hp, hq⟩
  have h4 : ∃ (n : Int) (b : Bool), (∀ w, VarsI w → Calls Tryd.prog 20 #[.string text] w (RB (.tuple #[.int .i64 n, .bool b]) w)) ∧ (∀ w, Calls Tryd.prog 21 #[.string text] w (RB (.tuple #[.int .i64 n, .bool b]) w)) := by
    have hp := fun w hv => Room_ok w text hv ht
    have hq := fun w => RefU.Room_ok w text ht
    unfold ServPost at hp hq
    cases h : serverOf 2 (bl text) with
    | none =>
      rw [h] at hp hq
      exact ⟨0, false, hp, hq⟩
    | some y =>
      rw [h] at hp hq
      exact ⟨y, true, hp, hq⟩
  obtain ⟨S, E, h1, g1⟩ := h1
  obtain ⟨k3, n3, s3, E3, h2, g2⟩ := h2
  obtain ⟨un, ub, h3, g3⟩ := h3
  obtain ⟨rn, rb, h4, g4⟩ := h4
  have hB0 : Below w.heap.size w (w.alloc (.cells #[.int .u8 k, .string nm, .int .i64 sv] 24)) := (Below.refl _ w).alloc (Nat.le_refl _) _
  have hV0 := hv.below hB0
  have hx0 : (w.alloc (.cells #[.int .u8 k, .string nm, .int .i64 sv] 24)).heap[w.heap.size]? = some (.cells #[.int .u8 k, .string nm, .int .i64 sv] 24 (0, 0)) := heap_new _ _
  obtain ⟨w0, hw0⟩ : ∃ w0, w0 = w.alloc (.cells #[.int .u8 k, .string nm, .int .i64 sv] 24) := ⟨_, rfl⟩
  rw [← hw0] at hB0 hV0 hx0
  have HB0 := Lib.hid hB0
  have HV0 := Lib.hid hV0
  have Hw0 := Lib.hid hw0
  have hl0 := lt_row hx0
  have hG := guardIdent
  have H1 := Lib.hid h1
  have H2 := Lib.hid h2
  have H3 := Lib.hid h3
  have H4 := Lib.hid h4
  have G1 := Lib.hid g1
  have G2 := Lib.hid g2
  have G3 := Lib.hid g3
  have G4 := Lib.hid g4
  clear hB0 hV0 hw0 hv hn h1 h2 h3 h4 g1 g2 g3 g4
  obtain ⟨hc0, hf0⟩ := row_facts hx0
  by_cases hbig : 4096 < text.size
  · go_enter Tryd.func3, Tryd.ntmps3
    go_wp2_with fail
    rw [show (w.alloc (.cells #[.int .u8 k, .string nm, .int .i64 sv] 24)) = w0 from Hw0.out.symm]
    refine (lives_ok w0 HV0.out).mono ?_
    rintro e w1 ⟨rfl, hb⟩
    have HB1 := Lib.hid (HB0.out.trans (hb.mono HB0.out.size))
    clear hb
    go_wp2
    go_ret
    exact ⟨rfl, HB1.out⟩
  · go_enter Tryd.func3, Tryd.ntmps3
    go_wp2_with fail
    rw [show (w.alloc (.cells #[.int .u8 k, .string nm, .int .i64 sv] 24)) = w0 from Hw0.out.symm]
    refine (H1.out w0 HV0.out).mono ?_
    rintro e w1 ⟨rfl, hb⟩
    have HV1 := Lib.hid (HV0.out.below hb)
    have HB1 := Lib.hid (HB0.out.trans (hb.mono HB0.out.size))
    have hx1 := (hb.block _ hl0).trans hx0
    have hl1 := lt_row hx1
    clear hb hc0 hf0
    obtain ⟨hc1, hf1⟩ := row_facts hx1
    go_wp2_with fail
    refine (G1.out w1).mono ?_
    rintro e w2 ⟨rfl, hb⟩
    have HV2 := Lib.hid (HV1.out.below hb)
    have HB2 := Lib.hid (HB1.out.trans (hb.mono HB1.out.size))
    clear hb hc1 hf1
    go_wp2_with fail
    refine (H2.out w2 HV2.out).mono ?_
    rintro e w3 ⟨rfl, hb⟩
    have HV3 := Lib.hid (HV2.out.below hb)
    have HB3 := Lib.hid (HB2.out.trans (hb.mono HB2.out.size))
    clear hb
    go_wp2_with fail
    refine (G2.out _).mono ?_
    rintro e w4 ⟨rfl, hb⟩
    have HV4 := Lib.hid ((HV3.out.below ((Below.refl _ w3).alloc (Nat.le_refl _) _)).below hb)
    have HB4 := Lib.hid ((HB3.out.alloc HB3.out.size _).trans (hb.mono (HB3.out.alloc HB3.out.size _).size))
    have hx4 := (hb.block w3.heap.size (by simp)).trans (heap_new _ _)
    have hl4 := lt_row hx4
    clear hb
    go_wp2_with fail
    refine (H3.out _ (HV4.out.below ((Below.refl _ w4).alloc (Nat.le_refl _) _))).mono ?_
    rintro e w5 ⟨rfl, hb⟩
    have HV5 := Lib.hid ((HV4.out.below ((Below.refl _ w4).alloc (Nat.le_refl _) _)).below hb)
    have HB5 := Lib.hid ((HB4.out.alloc HB4.out.size _).trans (hb.mono (HB4.out.alloc HB4.out.size _).size))
    have hx5 := (hb.block w3.heap.size (by simp; omega)).trans ((Below.heap_alloc _ _ _ hl4).trans hx4)
    have hy5 := (hb.block w4.heap.size (by simp)).trans (heap_new _ _)
    have hl5 := lt_row hx5
    have hm5 := lt_row hy5
    clear hb
    go_wp2_with fail
    refine (G3.out w5).mono ?_
    rintro e w6 ⟨rfl, hb⟩
    have HV6 := Lib.hid (HV5.out.below hb)
    have HB6 := Lib.hid (HB5.out.trans (hb.mono HB5.out.size))
    have hx6 := (hb.block _ hl5).trans hx5
    have hy6 := (hb.block _ hm5).trans hy5
    have hl6 := lt_row hx6
    have hm6 := lt_row hy6
    clear hb
    go_wp2_with fail
    refine (H4.out w6 HV6.out).mono ?_
    rintro e w7 ⟨rfl, hb⟩
    have HV7 := Lib.hid (HV6.out.below hb)
    have HB7 := Lib.hid (HB6.out.trans (hb.mono HB6.out.size))
    have hx7 := (hb.block _ hl6).trans hx6
    have hy7 := (hb.block _ hm6).trans hy6
    have hl7 := lt_row hx7
    have hm7 := lt_row hy7
    clear hb
    go_wp2_with fail
    refine (G4.out w7).mono ?_
    rintro e w8 ⟨rfl, hb⟩
    have HV8 := Lib.hid (HV7.out.below hb)
    have HB8 := Lib.hid (HB7.out.trans (hb.mono HB7.out.size))
    have hx8 := (hb.block _ hl7).trans hx7
    have hy8 := (hb.block _ hm7).trans hy7
    have hl8 := lt_row hx8
    have hm8 := lt_row hy8
    clear hb
    go_wp2_with fail
    refine (lives_ok w8 HV8.out).mono ?_
    rintro e w9 ⟨rfl, hb⟩
    have HB9 := Lib.hid (HB8.out.trans (hb.mono HB8.out.size))
    have hx9 := (hb.block _ hl8).trans hx8
    have hy9 := (hb.block _ hm8).trans hy8
    have hl9 := lt_row hx9
    have hm9 := lt_row hy9
    obtain ⟨hc, hf⟩ := row_facts hx9
    obtain ⟨hc', hf'⟩ := row_facts hy9
    clear hb
    go_wp2
    go_ret
    exact ⟨rfl, HB9.out⟩

end Go.Proofs.YtfodloepkgkilaaDoor.IdentTellsW
