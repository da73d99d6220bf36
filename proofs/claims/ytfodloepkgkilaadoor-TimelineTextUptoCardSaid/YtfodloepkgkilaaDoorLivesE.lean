/-
  WHAT IS PROVED: the program's event package reads an event of its bytes, whatever the bytes are; the statements' own check of the events answers true. Condition: the listed variables hold what 'VarsE' says, and the bytes are not longer than the theorem says.
-/
import Derived.Test.YtfodloepkgkilaaDoorEvent
import Derived.Test.YtfodloepkgkilaaDoorEqEvent
namespace Go.Proofs.YtfodloepkgkilaaDoor.LivesE
open Go Go.RowKit Go.Proofs.YtfodloepkgkilaaDoor Go.Proofs.YtfodloepkgkilaaDoor.OctetS Go.Proofs.YtfodloepkgkilaaDoor.IdentS Go.Proofs.YtfodloepkgkilaaDoor.EventS Go.Proofs.YtfodloepkgkilaaDoor.OctP Go.Proofs.YtfodloepkgkilaaDoor.OctA Go.Proofs.YtfodloepkgkilaaDoor.IdentP Go.Proofs.YtfodloepkgkilaaDoor.EventP Go.Proofs.YtfodloepkgkilaaDoor.EventC Go.Proofs.YtfodloepkgkilaaDoor.EventB Go.Proofs.YtfodloepkgkilaaDoor.EventR
set_option linter.unusedVariables false
set_option linter.unusedSimpArgs false
attribute [local go_sem] EqEvent.eqEvent
attribute [-go_sem] run_equalIn_agg

theorem Parse_ok (w : World) (s : ByteArray) (hv : VarsE w) (hs : s.size ≤ 140737488351232) : Calls Tryd.prog 35 #[.string s] w (EvPost (bl s) w) := by
  obtain ⟨l, y, ha⟩ : ∃ l y, all (bl s) = (l, y) := ⟨_, _, rfl⟩
  by_cases hy : y = 0
  · subst hy
    by_cases h6 : l.length = 6
    · match l, h6 with
      | [a, b, c, d, f, g], _ =>
        obtain ⟨n, u, z, hg⟩ : ∃ n u z, getNum g = (n, u, z) := ⟨_, _, _, rfl⟩
        by_cases hz : z = 0
        · subst hz
          by_cases hu : u < g.length
          · exact Parse_num w s hv hs ha (.inr ⟨by rw [hg], by rw [hg]; exact hu⟩)
          · cases hck : checkB ⟨a, b, kindW c, d, f, n⟩
            · exact Parse_no w s hv hs ha hg (by omega) hck
            · exact Parse_yes w s hv hs ha hg (by omega) hck
        · exact Parse_num w s hv hs ha (.inl (by rw [hg]; exact hz))
    · exact Parse_bad w s hv hs ha (.inr ⟨rfl, h6⟩)
  · exact Parse_bad w s hv hs ha (.inl hy)

def ev0 : Ev := ⟨[33, 104, 97, 108, 108, 58, 48], [64, 97, 110, 110, 58, 48], 6, [], [104, 105], 7⟩
def s0 : List UInt8 := [6, 7, 33, 104, 97, 108, 108, 58, 48, 6, 64, 97, 110, 110, 58, 48, 7, 109, 101, 115, 115, 97, 103, 101, 0, 2, 104, 105, 1, 7]
theorem right0 : Right ev0 := check_iff.1 (by decide +kernel)
theorem bytes0 : EventS.bytes ev0 = s0 := by decide +kernel

theorem t1 (w : World) (hv : VarsE w) : Calls Tryd.prog 33 #[.agg #[.string ⟨#[33, 104, 97, 108, 108, 58, 48]⟩, .string ⟨#[64, 97, 110, 110, 58, 48]⟩, .int .u8 6, .string ByteArray.empty, .string ⟨#[104, 105]⟩, .int .i64 7]] w (RB (.tuple #[.string (bsOf s0), .int .i64 0]) w) := by
  have h := Bytes_ok w ⟨#[33, 104, 97, 108, 108, 58, 48]⟩ ⟨#[64, 97, 110, 110, 58, 48]⟩ 6 ByteArray.empty ⟨#[104, 105]⟩ 7 hv (by decide) (by decide) (by decide) (by decide)
  have e : evOf ⟨#[33, 104, 97, 108, 108, 58, 48]⟩ ⟨#[64, 97, 110, 110, 58, 48]⟩ 6 ByteArray.empty ⟨#[104, 105]⟩ 7 = ev0 := rfl
  rw [e] at h
  unfold bytesOf at h
  rw [check_iff.2 right0, if_pos rfl, bytes0] at h
  exact h
theorem t2 (w : World) : Calls Tryd.prog 70 #[.string (bsOf s0)] w (AllPost w (parts ev0, 0)) := by
  have h := All_ok w (bsOf s0) (by decide)
  rw [bl_bsOf, ← bytes0, EventS.bytes, all_list right0.fits] at h
  exact h
theorem t3 (w : World) (hv : VarsE w) : Calls Tryd.prog 35 #[.string (bsOf s0)] w (RB (.tuple #[.agg #[.string ⟨#[33, 104, 97, 108, 108, 58, 48]⟩, .string ⟨#[64, 97, 110, 110, 58, 48]⟩, .int .u8 6, .string ByteArray.empty, .string ⟨#[104, 105]⟩, .int .i64 7], .int .i64 0]) w) := by
  have h := Parse_ok w (bsOf s0) hv (by decide)
  unfold EvPost at h
  rw [bl_bsOf, ← bytes0, parse_bytes right0] at h
  rw [← bytes0]
  exact h
theorem t4 (w : World) (hv : VarsE w) : Calls Tryd.prog 35 #[.string (bsOf (s0 ++ [33]))] w (RB (.tuple #[.agg evZero, .int .i64 6]) w) := by
  have h := Parse_ok w (bsOf (s0 ++ [33])) hv (by decide)
  have e : EventS.parse (s0 ++ [33]) = none := by
    unfold EventS.parse
    exact if_neg (by decide +kernel)
  unfold EvPost at h
  rw [bl_bsOf, e] at h
  exact h
theorem t5 (w : World) (hv : VarsE w) : Calls Tryd.prog 29 #[.agg evZero] w (RB (.int .i64 2) w) :=
  Check_ok w ByteArray.empty ByteArray.empty 0 ByteArray.empty ByteArray.empty 0 hv.i (by decide) (by decide) (by decide) (by decide)

theorem below_cell {w w' : World} {p : Addr} {v : Value} (hb : Below w.heap.size w w') (h : w.cell? p = some v) : w'.cell? p = some v := (hb.cell (World.block_lt_of_cell? w _ h)).trans h

set_option maxRecDepth 100000 in
set_option maxHeartbeats 4000000 in
theorem lives_ok (w : World) (hv : VarsE w) : Calls Tryd.prog 32 #[] w (RB (.bool true) w) := by
  obtain ⟨w0, hw0⟩ : ∃ w0, w0 = w.alloc (.cells #[.string ⟨#[33, 104, 97, 108, 108, 58, 48]⟩, .string ⟨#[64, 97, 110, 110, 58, 48]⟩, .int .u8 6, .string ByteArray.empty, .string ⟨#[104, 105]⟩, .int .i64 7] 36) := ⟨_, rfl⟩
  have hB0 : Below w.heap.size w w0 := by rw [hw0]; exact (Below.refl _ w).alloc (Nat.le_refl _) _
  have hx0 : w0.heap[w.heap.size]? = some (.cells #[.string ⟨#[33, 104, 97, 108, 108, 58, 48]⟩, .string ⟨#[64, 97, 110, 110, 58, 48]⟩, .int .u8 6, .string ByteArray.empty, .string ⟨#[104, 105]⟩, .int .i64 7] 36 (0, 0)) := by rw [hw0]; exact heap_new _ _
  have hl0 := lt_row hx0
  have HV0 := Lib.hid (hv.below hB0)
  have HB0 := Lib.hid hB0
  have Hw0 := Lib.hid hw0
  obtain ⟨S, hS⟩ : ∃ S, S = bsOf s0 := ⟨_, rfl⟩
  obtain ⟨S1, hS1⟩ : ∃ S1, S1 = bsOf (s0 ++ [33]) := ⟨_, rfl⟩
  have hcat : (S ++ ⟨#[33]⟩ : ByteArray) = S1 := by rw [hS, hS1]; decide +kernel
  have h1 := t1
  have h2 := t2
  have h3 := t3
  have h4 := t4
  rw [← hS] at h1 h2 h3
  rw [← hS1] at h4
  have H1 := Lib.hid h1
  have H2 := Lib.hid h2
  have H3 := Lib.hid h3
  have H4 := Lib.hid h4
  have Hcat := Lib.hid hcat
  have hz : S.size = 30 := by rw [hS]; decide +kernel
  clear hv hB0 hw0 h1 h2 h3 h4 hS hS1
  go_enter Tryd.func32, Tryd.ntmps32
  go_wp2_with fail
  rw [show (w.alloc (.cells #[.string ⟨#[33, 104, 97, 108, 108, 58, 48]⟩, .string ⟨#[64, 97, 110, 110, 58, 48]⟩, .int .u8 6, .string ⟨#[]⟩, .string ⟨#[104, 105]⟩, .int .i64 7] 36)) = w0 from Hw0.out.symm]
  refine (H1.out w0 HV0.out).mono ?_
  rintro e w1 ⟨rfl, hb⟩
  have HV1 := Lib.hid (HV0.out.below hb)
  have HB1 := Lib.hid (HB0.out.trans (hb.mono HB0.out.size))
  have hx1 := (hb.block _ hl0).trans hx0
  have hl1 := lt_row hx1
  clear hb
  go_wp2_with fail
  refine (H2.out w1).mono ?_
  rintro e w2 ⟨v, rfl, hl, hb⟩
  obtain ⟨B, cap, rfl, hBn, _, _, q2, _, _, q5⟩ := list6 hl
  have HV2 := Lib.hid (HV1.out.below hb)
  have HB2 := Lib.hid (HB1.out.trans (hb.mono HB1.out.size))
  have hx2 := (hb.block _ hl1).trans hx1
  have hl2 := lt_row hx2
  clear hb hl
  go_wp2_with fail
  refine (H3.out w2 HV2.out).mono ?_
  rintro e w3 ⟨rfl, hb⟩
  have HV3 := Lib.hid (HV2.out.below hb)
  have HB3 := Lib.hid (HB2.out.trans (hb.mono HB2.out.size))
  have hx3 := (hb.block _ hl2).trans hx2
  have hl3 := lt_row hx3
  have q2' := below_cell hb q2
  have q5' := below_cell hb q5
  clear hb q2 q5
  go_wp2_with fail
  refine (H4.out _ (HV3.out.below ((Below.refl _ w3).alloc (Nat.le_refl _) _))).mono ?_
  rintro e w4 ⟨rfl, hb⟩
  have HV4 := Lib.hid ((HV3.out.below ((Below.refl _ w3).alloc (Nat.le_refl _) _)).below hb)
  have HB4 := Lib.hid ((HB3.out.alloc HB3.out.size _).trans (hb.mono (HB3.out.alloc HB3.out.size _).size))
  have hx4 := (hb.block w.heap.size (by simp; omega)).trans ((Below.heap_alloc _ _ _ hl3).trans hx3)
  have hy4 := (hb.block w3.heap.size (by simp)).trans (heap_new _ _)
  have q24 := below_cell hb (EventR.cell_alloc q2' _)
  have q54 := below_cell hb (EventR.cell_alloc q5' _)
  have e2 : bsOf (word ev0.kind) = ⟨#[109, 101, 115, 115, 97, 103, 101]⟩ := by decide +kernel
  have e5 : bsOf (num ev0.nonce.toNat) = ⟨#[7]⟩ := by decide +kernel
  rw [e2] at q24
  rw [e5] at q54
  have hl4 := lt_row hx4
  have hBl : B < w4.heap.size := World.block_lt_of_cell? w4 _ q24
  have hBn4 : ¬ B = w4.heap.size := by omega
  have hm4 := lt_row hy4
  obtain ⟨hc, hf⟩ := row_facts hx4
  obtain ⟨hc', hf'⟩ := row_facts hy4
  have hG := EqEvent.guardEvent
  clear hb q2' q5' e2 e5 hcat
  unfold evZero
  go_wp2_with fail
  refine (t5 _ (HV4.out.below ((Below.refl _ w4).alloc (Nat.le_refl _) _))).mono ?_
  rintro e w5 ⟨rfl, hb⟩
  have HB5 := Lib.hid ((HB4.out.alloc HB4.out.size _).trans (hb.mono (HB4.out.alloc HB4.out.size _).size))
  have HV5 := Lib.hid ((HV4.out.below ((Below.refl _ w4).alloc (Nat.le_refl _) _)).below hb)
  clear hb
  go_wp2_with fail
  refine (State_ok w5 5).mono ?_
  rintro e w6 ⟨rfl, rfl⟩
  rw [show stateB 5 = true from rfl]
  go_wp2_with fail
  refine (State_ok w5 6).mono ?_
  rintro e w6 ⟨rfl, rfl⟩
  rw [show stateB 6 = false from rfl]
  go_wp2_with fail
  refine (Word_ok w5 8 HV5.out).mono ?_
  rintro e w6 ⟨rfl, rfl⟩
  rw [show bsOf (if EventS.known 8 then word 8 else []) = ⟨#[104, 97, 110, 100, 111, 118, 101, 114]⟩ from by decide +kernel]
  go_wp2
  go_ret
  exact ⟨rfl, HB5.out⟩

end Go.Proofs.YtfodloepkgkilaaDoor.LivesE
