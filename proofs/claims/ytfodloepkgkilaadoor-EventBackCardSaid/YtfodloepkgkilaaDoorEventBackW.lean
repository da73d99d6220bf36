/-
  WHAT IS PROVED: the statement's function that reads an event of its bytes answers true. Condition: the variables hold what 'VarsE' says, and the strings are not longer than the theorem says.
-/
import Derived.Test.YtfodloepkgkilaaDoorLivesE
namespace Go.Proofs.YtfodloepkgkilaaDoor.EventBackW
open Go Go.RowKit Go.Proofs.YtfodloepkgkilaaDoor Go.Proofs.YtfodloepkgkilaaDoor.OctetS Go.Proofs.YtfodloepkgkilaaDoor.IdentS Go.Proofs.YtfodloepkgkilaaDoor.EventS Go.Proofs.YtfodloepkgkilaaDoor.OctP Go.Proofs.YtfodloepkgkilaaDoor.IdentP Go.Proofs.YtfodloepkgkilaaDoor.EventP Go.Proofs.YtfodloepkgkilaaDoor.EventC Go.Proofs.YtfodloepkgkilaaDoor.EventB Go.Proofs.YtfodloepkgkilaaDoor.EventR Go.Proofs.YtfodloepkgkilaaDoor.LivesE
set_option linter.unusedVariables false
attribute [local go_sem] EqEvent.eqEvent
attribute [-go_sem] run_equalIn_agg

set_option maxRecDepth 100000 in
set_option maxHeartbeats 4000000 in
theorem back_ok (w : World) (hv : VarsE w) (r s : ByteArray) (k : Int) (ky b : ByteArray) (n : Int) (text : ByteArray) (hr : r.size ≤ 140737488351232) (hs : s.size ≤ 140737488351232) (hk : ky.size ≤ 140737488351232) (hb : b.size ≤ maxLen) (ht : text.size ≤ 140737488351232) :
    Calls Tryd.prog 9 #[evV r s k ky b n, .string text] w (RB (.bool true) w) := by
  have h1 : (∃ S, (∀ w, VarsE w → Calls Tryd.prog 33 #[evV r s k ky b n] w (RB (.tuple #[.string S, .int .i64 0]) w)) ∧ (∀ w, VarsE w → Calls Tryd.prog 35 #[.string S] w (RB (.tuple #[evV r s k ky b n, .int .i64 0]) w)) ∧ (∀ w, VarsE w → Calls Tryd.prog 29 #[evV r s k ky b n] w (RB (.int .i64 0) w)))
      ∨ ((∀ w, VarsE w → Calls Tryd.prog 33 #[evV r s k ky b n] w (RB (.tuple #[.string ByteArray.empty, .int .i64 2]) w)) ∧ (∀ w, VarsE w → Calls Tryd.prog 35 #[.string ByteArray.empty] w (RB (.tuple #[.agg evZero, .int .i64 6]) w)) ∧ (∀ w, VarsE w → Calls Tryd.prog 29 #[evV r s k ky b n] w (RB (.int .i64 2) w))) := by
    have hB := fun w hv => Bytes_ok w r s k ky b n hv hr hs hk hb
    have hC := fun w (hv : VarsE w) => Check_ok w r s k ky b n hv.i hr hs hk hb
    unfold bytesOf at hB
    cases h : checkB (evOf r s k ky b n)
    · rw [h] at hB hC
      exact .inr ⟨hB, fun w hv => Parse_ok w ByteArray.empty hv (by decide), hC⟩
    · rw [h] at hB hC
      have hR := check_iff.1 h
      refine .inl ⟨bsOf (EventS.bytes (evOf r s k ky b n)), hB, fun w hv => ?_, hC⟩
      have hl := hR.length
      have hp := Parse_ok w (bsOf (EventS.bytes (evOf r s k ky b n))) hv (by rw [size_bsOf]; omega)
      unfold EvPost at hp
      rw [bl_bsOf, parse_bytes hR] at hp
      have e0 : bsOf (evOf r s k ky b n).room = r := bsOf_bl r
      have e1 : bsOf (evOf r s k ky b n).sender = s := bsOf_bl s
      have e2 : bsOf (evOf r s k ky b n).key = ky := bsOf_bl ky
      have e3 : bsOf (evOf r s k ky b n).body = b := bsOf_bl b
      simp only [readEV, e0, e1, e2, e3] at hp
      exact hp
  have h2 : ((∀ w, VarsE w → Calls Tryd.prog 35 #[.string text] w (RB (.tuple #[.agg evZero, .int .i64 6]) w)) ∧ (∀ w, VarsE w → Calls Tryd.prog 33 #[.agg evZero] w (RB (.tuple #[.string ByteArray.empty, .int .i64 2]) w)))
      ∨ (∃ (r3 s3 : ByteArray) (k3 : Int) (ky3 b3 : ByteArray) (n3 : Int), (∀ w, VarsE w → Calls Tryd.prog 35 #[.string text] w (RB (.tuple #[evV r3 s3 k3 ky3 b3 n3, .int .i64 0]) w)) ∧ (∀ w, VarsE w → Calls Tryd.prog 33 #[evV r3 s3 k3 ky3 b3 n3] w (RB (.tuple #[.string text, .int .i64 0]) w))
        ∧ (∀ w, VarsE w → Calls Tryd.prog 29 #[evV r3 s3 k3 ky3 b3 n3] w (RB (.int .i64 0) w))) := by
    have hp := fun w hv => Parse_ok w text hv ht
    unfold EvPost at hp
    cases h : EventS.parse (bl text) with
    | none =>
      rw [h] at hp
      refine .inl ⟨hp, fun w hv => ?_⟩
      exact Bytes_ok w ByteArray.empty ByteArray.empty 0 ByteArray.empty ByteArray.empty 0 hv (by decide) (by decide) (by decide) (by decide)
    | some x =>
      obtain ⟨hR, hx⟩ := parse_ok h
      rw [h] at hp
      have he : evOf (bsOf x.room) (bsOf x.sender) x.kind (bsOf x.key) (bsOf x.body) x.nonce = x := by unfold evOf; simp only [bl_bsOf]
      have z0 := room_length hR.room
      have z1 := user_length hR.sender
      have z2 := hR.key_length
      have z3 := hR.body
      refine .inr ⟨bsOf x.room, bsOf x.sender, x.kind, bsOf x.key, bsOf x.body, x.nonce, hp, fun w hv => ?_, fun w hv => ?_⟩
      · have := Bytes_ok w (bsOf x.room) (bsOf x.sender) x.kind (bsOf x.key) (bsOf x.body) x.nonce hv (by rw [size_bsOf]; omega) (by rw [size_bsOf]; omega) (by rw [size_bsOf]; omega) (by rw [size_bsOf]; unfold maxLen; omega)
        unfold bytesOf at this
        rw [he, check_iff.2 hR, if_pos rfl, hx, bsOf_bl] at this
        exact this
      · have := Check_ok w (bsOf x.room) (bsOf x.sender) x.kind (bsOf x.key) (bsOf x.body) x.nonce hv.i (by rw [size_bsOf]; omega) (by rw [size_bsOf]; omega) (by rw [size_bsOf]; omega) (by rw [size_bsOf]; unfold maxLen; omega)
        rw [he, check_iff.2 hR] at this
        exact this
  unfold evV at h1 h2 ⊢
  unfold evZero at h1 h2
  have hB0 : Below w.heap.size w (w.alloc (.cells #[.string r, .string s, .int .u8 k, .string ky, .string b, .int .i64 n] 36)) := (Below.refl _ w).alloc (Nat.le_refl _) _
  have hV0 := hv.below hB0
  have hx0 : (w.alloc (.cells #[.string r, .string s, .int .u8 k, .string ky, .string b, .int .i64 n] 36)).heap[w.heap.size]? = some (.cells #[.string r, .string s, .int .u8 k, .string ky, .string b, .int .i64 n] 36 (0, 0)) := heap_new _ _
  obtain ⟨w0, hw0⟩ : ∃ w0, w0 = w.alloc (.cells #[.string r, .string s, .int .u8 k, .string ky, .string b, .int .i64 n] 36) := ⟨_, rfl⟩
  rw [← hw0] at hB0 hV0 hx0
  have HB0 := Lib.hid hB0
  have HV0 := Lib.hid hV0
  have Hw0 := Lib.hid hw0
  have hl0 := lt_row hx0
  have hG := EqEvent.guardEvent
  clear hB0 hV0 hw0 hv hr hs hk hb ht
  rcases h1 with ⟨S, h1, h3, h6⟩ | ⟨h1, h3, h6⟩ <;> rcases h2 with ⟨h4, h5⟩ | ⟨r3, s3, k3, ky3, b3, n3, h4, h5, h7⟩
  all_goals
    have H1 := Lib.hid h1
    have H3 := Lib.hid h3
    have H4 := Lib.hid h4
    have H5 := Lib.hid h5
    have H6 := Lib.hid h6
    try have H7 := Lib.hid h7
    clear h1 h3 h4 h5 h6
    try clear h7
    go_enter Tryd.func9, Tryd.ntmps9
    go_wp2_with fail
    rw [show (w.alloc (.cells #[.string r, .string s, .int .u8 k, .string ky, .string b, .int .i64 n] 36)) = w0 from Hw0.out.symm]
    refine (lives_ok w0 HV0.out).mono ?_
    rintro e w1 ⟨rfl, hb⟩
    have HV1 := Lib.hid (HV0.out.below hb)
    have HB1 := Lib.hid (HB0.out.trans (hb.mono HB0.out.size))
    have hx1 := (hb.block _ hl0).trans hx0
    have hl1 := lt_row hx1
    clear hb
    obtain ⟨hc1, hf1⟩ := row_facts hx1
    go_wp2_with fail
    refine (H1.out w1 HV1.out).mono ?_
    rintro e w2 ⟨rfl, hb⟩
    have HV2 := Lib.hid (HV1.out.below hb)
    have HB2 := Lib.hid (HB1.out.trans (hb.mono HB1.out.size))
    have hx2 := (hb.block _ hl1).trans hx1
    have hl2 := lt_row hx2
    clear hb hc1 hf1
    go_wp2_with fail
    refine (H3.out w2 HV2.out).mono ?_
    rintro e w3 ⟨rfl, hb⟩
    have HV3 := Lib.hid (HV2.out.below hb)
    have HB3 := Lib.hid (HB2.out.trans (hb.mono HB2.out.size))
    have hx3 := (hb.block _ hl2).trans hx2
    have hl3 := lt_row hx3
    clear hb
    go_wp2_with fail
    refine (H4.out _ (HV3.out.below ((Below.refl _ w3).alloc (Nat.le_refl _) _))).mono ?_
    rintro e w4 ⟨rfl, hb⟩
    have HV4 := Lib.hid ((HV3.out.below ((Below.refl _ w3).alloc (Nat.le_refl _) _)).below hb)
    have HB4 := Lib.hid ((HB3.out.alloc HB3.out.size _).trans (hb.mono (HB3.out.alloc HB3.out.size _).size))
    have hx4 := (hb.block w.heap.size (by simp; omega)).trans ((Below.heap_alloc _ _ _ hl3).trans hx3)
    have hy4 := (hb.block w3.heap.size (by simp)).trans (heap_new _ _)
    have hl4 := lt_row hx4
    have hm4 := lt_row hy4
    clear hb
    go_wp2_with fail
    refine (H5.out _ (HV4.out.below ((Below.refl _ w4).alloc (Nat.le_refl _) _))).mono ?_
    rintro e w5 ⟨rfl, hb⟩
    have HV5 := Lib.hid ((HV4.out.below ((Below.refl _ w4).alloc (Nat.le_refl _) _)).below hb)
    have HB5 := Lib.hid ((HB4.out.alloc HB4.out.size _).trans (hb.mono (HB4.out.alloc HB4.out.size _).size))
    have hx5 := (hb.block w.heap.size (by simp; omega)).trans ((Below.heap_alloc _ _ _ hl4).trans hx4)
    have hy5 := (hb.block w3.heap.size (by simp; omega)).trans ((Below.heap_alloc _ _ _ hm4).trans hy4)
    have hz5 := (hb.block w4.heap.size (by simp)).trans (heap_new _ _)
    have hl5 := lt_row hx5
    have hm5 := lt_row hy5
    have hn5 := lt_row hz5
    obtain ⟨hc5, hf5⟩ := row_facts hx5
    clear hb
    go_wp2_with fail
    refine (H6.out _ HV5.out).mono ?_
    rintro e w6 ⟨rfl, hb⟩
    have HV6 := Lib.hid (HV5.out.below hb)
    have HB6 := Lib.hid (HB5.out.trans (hb.mono HB5.out.size))
    have hx6 := (hb.block _ hl5).trans hx5
    have hy6 := (hb.block _ hm5).trans hy5
    have hz6 := (hb.block _ hn5).trans hz5
    have hl6 := lt_row hx6
    have hm6 := lt_row hy6
    have hn6 := lt_row hz6
    clear hb hc5 hf5
    obtain ⟨hc, hf⟩ := row_facts hx6
    obtain ⟨hc', hf'⟩ := row_facts hy6
    obtain ⟨hc'', hf''⟩ := row_facts hz6
    first
      | (go_wp2_with fail
         refine (H7.out _ HV6.out).mono ?_
         rintro e w7 ⟨rfl, hb⟩
         have HB7 := Lib.hid (HB6.out.trans (hb.mono HB6.out.size))
         clear hb
         go_wp2
         go_ret
         exact ⟨rfl, HB7.out⟩)
      | (go_wp2
         go_ret
         exact ⟨rfl, HB6.out⟩)

end Go.Proofs.YtfodloepkgkilaaDoor.EventBackW
