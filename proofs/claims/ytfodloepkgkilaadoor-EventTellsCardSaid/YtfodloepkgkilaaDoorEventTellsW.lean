/-
  WHAT IS PROVED: the statement's function that compares events with the document's own answers answers true. Condition: the variables hold what 'VarsE' says, the strings are not longer than the theorem says, and the kinds are numbers of eight bits.
-/
import Derived.Test.YtfodloepkgkilaaDoorLivesE
import Derived.Test.YtfodloepkgkilaaDoorEvRB
import Derived.Test.YtfodloepkgkilaaDoorEvRP
import Derived.Test.YtfodloepkgkilaaDoorUniform
namespace Go.Proofs.YtfodloepkgkilaaDoor.EventTellsW
open Go Go.RowKit Go.Proofs.YtfodloepkgkilaaDoor Go.Proofs.YtfodloepkgkilaaDoor.OctetS Go.Proofs.YtfodloepkgkilaaDoor.IdentS Go.Proofs.YtfodloepkgkilaaDoor.EventS Go.Proofs.YtfodloepkgkilaaDoor.OctP Go.Proofs.YtfodloepkgkilaaDoor.IdentP Go.Proofs.YtfodloepkgkilaaDoor.EventP Go.Proofs.YtfodloepkgkilaaDoor.EventC Go.Proofs.YtfodloepkgkilaaDoor.EventB Go.Proofs.YtfodloepkgkilaaDoor.EventR Go.Proofs.YtfodloepkgkilaaDoor.LivesE
set_option linter.unusedVariables false
attribute [local go_sem] EqEvent.eqEvent
attribute [-go_sem] run_equalIn_agg

set_option maxRecDepth 100000 in
set_option maxHeartbeats 8000000 in
theorem tells_ok (w : World) (hv : VarsE w) (r s : ByteArray) (k : Int) (ky b : ByteArray) (n : Int) (text : ByteArray) (kk : Int) (h0 : 0 ≤ k) (h1 : k ≤ 255) (h2 : 0 ≤ kk) (h3 : kk ≤ 255)
    (hr : r.size ≤ 140737488351232) (hs : s.size ≤ 140737488351232) (hk : ky.size ≤ 140737488351232) (hb : b.size ≤ maxLen) (ht : text.size ≤ 140737488351232) :
    Calls Tryd.prog 8 #[evV r s k ky b n, .string text, .int .u8 kk] w (RB (.bool true) w) := by
  have a1 : ∃ (T : ByteArray) (E : Int), (∀ w, VarsE w → Calls Tryd.prog 33 #[evV r s k ky b n] w (RB (.tuple #[.string T, .int .i64 E]) w)) ∧ (∀ w, Calls Tryd.prog 34 #[evV r s k ky b n] w (RB (.tuple #[.string T, .int .i64 E]) w)) :=
    ⟨_, _, fun w hv => Bytes_ok w r s k ky b n hv hr hs hk hb, fun w => EvRB.Bytes_ok w r s k ky b n h0 h1 hr hs hk hb⟩
  have a2 : ∃ (r3 s3 : ByteArray) (k3 : Int) (y3 b3 : ByteArray) (n3 E3 : Int), (∀ w, VarsE w → Calls Tryd.prog 35 #[.string text] w (RB (.tuple #[evV r3 s3 k3 y3 b3 n3, .int .i64 E3]) w)) ∧ (∀ w, Calls Tryd.prog 36 #[.string text] w (RB (.tuple #[evV r3 s3 k3 y3 b3 n3, .int .i64 E3]) w)) := by
    have hp := fun w hv => Parse_ok w text hv ht
    have hq := fun w => EvRP.Parse_ok w text ht
    unfold EvPost readEV at hp hq
    cases h : EventS.parse (bl text) with
    | none =>
      rw [h] at hp hq
      exact ⟨_, _, _, _, _, _, _, hp, hq⟩
    | some x =>
      rw [h] at hp hq
      exact ⟨_, _, _, _, _, _, _, hp, hq⟩
  have a3 : ∃ (E4 : Int), (∀ w, VarsE w → Calls Tryd.prog 29 #[evV r s k ky b n] w (RB (.int .i64 E4) w)) ∧ (∀ w, Calls Tryd.prog 37 #[evV r s k ky b n] w (RB (.int .i64 E4) w)) :=
    ⟨_, fun w hv => Check_ok w r s k ky b n hv.i hr hs hk hb, fun w => EvRC.Check_ok w r s k ky b n h0 h1 hr hs hk hb⟩
  have hwk : (if EventS.known kk then word kk else []) = word kk := by
    cases h : EventS.known kk
    · rw [EvRW.word_empty h]; rfl
    · rfl
  obtain ⟨T, E, b1, c1⟩ := a1
  obtain ⟨r3, s3, k3, y3, b3, n3, E3, b2, c2⟩ := a2
  obtain ⟨E4, b4, c4⟩ := a3
  have c5 := fun w => EvRW.State_ok w kk h2 h3
  have c6 := fun w => EvRW.Word_ok w kk h2 h3
  have Word_ok := fun w hv => EventP.Word_ok w kk hv
  rw [hwk] at Word_ok
  have Word_ok : ∀ w (k : Int), VarsE w → k = kk → _ := fun w k hv _ => Word_ok w hv
  unfold evV at b1 c1 b2 c2 b4 c4 ⊢
  obtain ⟨w0, hw0⟩ : ∃ w0, w0 = w.alloc (.cells #[.string r, .string s, .int .u8 k, .string ky, .string b, .int .i64 n] 36) := ⟨_, rfl⟩
  have hB0 : Below w.heap.size w w0 := by rw [hw0]; exact (Below.refl _ w).alloc (Nat.le_refl _) _
  have hx0 : w0.heap[w.heap.size]? = some (.cells #[.string r, .string s, .int .u8 k, .string ky, .string b, .int .i64 n] 36 (0, 0)) := by rw [hw0]; exact heap_new _ _
  have hl0 := lt_row hx0
  have HB0 := Lib.hid hB0
  have HV0 := Lib.hid (hv.below hB0)
  have Hw0 := Lib.hid hw0
  have B1 := Lib.hid b1
  have C1 := Lib.hid c1
  have B2 := Lib.hid b2
  have C2 := Lib.hid c2
  have HC := Lib.hid b4
  have GC := Lib.hid c4
  have GS := Lib.hid c5
  have GW := Lib.hid c6
  have HW := Lib.hid Word_ok
  have hG := EqEvent.guardEvent
  clear hB0 hw0 hv hr hs hk hb ht b1 c1 b2 c2 b4 c4 c5 c6 hwk Word_ok
  obtain ⟨hc0, hf0⟩ := row_facts hx0
  by_cases hbig : 16384 < text.size
  · go_enter Tryd.func8, Tryd.ntmps8
    go_wp2_with fail
    rw [show (w.alloc (.cells #[.string r, .string s, .int .u8 k, .string ky, .string b, .int .i64 n] 36)) = w0 from Hw0.out.symm]
    refine (lives_ok w0 HV0.out).mono ?_
    rintro e w1 ⟨rfl, hb⟩
    have HB1 := Lib.hid (HB0.out.trans (hb.mono HB0.out.size))
    clear hb
    go_wp2
    go_ret
    exact ⟨rfl, HB1.out⟩
  · go_enter Tryd.func8, Tryd.ntmps8
    go_wp2_with fail
    rw [show (w.alloc (.cells #[.string r, .string s, .int .u8 k, .string ky, .string b, .int .i64 n] 36)) = w0 from Hw0.out.symm]
    refine (B1.out w0 HV0.out).mono ?_
    rintro e w1 ⟨rfl, hb⟩
    have HV1 := Lib.hid (HV0.out.below hb)
    have HB1 := Lib.hid (HB0.out.trans (hb.mono HB0.out.size))
    have hx1 := (hb.block _ hl0).trans hx0
    have hl1 := lt_row hx1
    clear hb hc0 hf0
    obtain ⟨hc1, hf1⟩ := row_facts hx1
    go_wp2_with fail
    refine (C1.out w1).mono ?_
    rintro e w2 ⟨rfl, hb⟩
    have HV2 := Lib.hid (HV1.out.below hb)
    have HB2 := Lib.hid (HB1.out.trans (hb.mono HB1.out.size))
    have hx2 := (hb.block _ hl1).trans hx1
    clear hb hc1 hf1
    go_wp2_with fail
    refine (B2.out w2 HV2.out).mono ?_
    rintro e w3 ⟨rfl, hb⟩
    have HV3 := Lib.hid (HV2.out.below hb)
    have HB3 := Lib.hid (HB2.out.trans (hb.mono HB2.out.size))
    have hx3 := (hb.block _ (lt_row hx2)).trans hx2
    have hl3 := lt_row hx3
    clear hb
    go_wp2_with fail
    refine (C2.out _).mono ?_
    rintro e w4 ⟨rfl, hb⟩
    have HV4' := Lib.hid ((HV3.out.below ((Below.refl _ w3).alloc (Nat.le_refl _) _)).below hb)
    have HB4' := Lib.hid ((HB3.out.alloc HB3.out.size _).trans (hb.mono (HB3.out.alloc HB3.out.size _).size))
    have hy4' := (hb.block w3.heap.size (by simp)).trans (heap_new _ _)
    have hx4' := (hb.block w.heap.size (by simp; omega)).trans (heap_at hx3 _)
    clear hb
    go_wp2_with fail
    have HV4 := Lib.hid (HV4'.out.below ((Below.refl _ w4).alloc (Nat.le_refl _) (.cells #[.string r3, .string s3, .int .u8 k3, .string y3, .string b3, .int .i64 n3] 36)))
    have HB4 := Lib.hid (HB4'.out.alloc HB4'.out.size (.cells #[.string r3, .string s3, .int .u8 k3, .string y3, .string b3, .int .i64 n3] 36))
    have hx4 := heap_at hx4' (.cells #[.string r3, .string s3, .int .u8 k3, .string y3, .string b3, .int .i64 n3] 36)
    have hy4 := heap_at hy4' (.cells #[.string r3, .string s3, .int .u8 k3, .string y3, .string b3, .int .i64 n3] 36)
    have hz4 := heap_new w4 (.cells #[.string r3, .string s3, .int .u8 k3, .string y3, .string b3, .int .i64 n3] 36)
    clear hx4' hy4'
    refine Uniform.region_chain (S := (fun W => W.heap[w.heap.size]? = some (.cells #[.string r, .string s, .int .u8 k, .string ky, .string b, .int .i64 n] 36 (0, 0)) ∧ W.heap[w3.heap.size]? = some (.cells #[.string r3, .string s3, .int .u8 k3, .string y3, .string b3, .int .i64 n3] 36 (0, 0)) ∧ W.heap[w4.heap.size]? = some (.cells #[.string r3, .string s3, .int .u8 k3, .string y3, .string b3, .int .i64 n3] 36 (0, 0)) ∧ VarsE W ∧ Below w.heap.size w W)) (List.range 43) (by kernel_rfl) (by kernel_rfl) ⟨hx4, hy4, hz4, (HV4.out).below (Bl.drew (Below.refl _ _)), (HB4.out).drew⟩ ?_
    refine ⟨_, ?_, rfl, Or.inl ⟨by rfl, fun wq hSw => Uniform.UStep.call (w' := wq) ?_ ((lives_ok wq hSw.2.2.2.1).mono ?_)⟩, ?_⟩
    rotate_left
    · obtain ⟨q0, q1, q2, q3, q4⟩ := hSw
      obtain ⟨qc0, qf0⟩ := row_facts q0
      obtain ⟨qc1, qf1⟩ := row_facts q1
      obtain ⟨qc2, qf2⟩ := row_facts q2
      go_simp
      first | done | rfl | exact ⟨⟨rfl, rfl⟩, rfl⟩ | exact ⟨rfl, rfl⟩
    · have hSk := hSw
      obtain ⟨q0, q1, q2, q3, q4⟩ := hSw
      rintro e wq2 ⟨rfl, hbq⟩
      refine ⟨?_, (hbq.block _ (lt_row q0)).trans q0, (hbq.block _ (lt_row q1)).trans q1, (hbq.block _ (lt_row q2)).trans q2, q3.below hbq, q4.trans (hbq.mono q4.size)⟩
      rfl
    simp only [Act.put, List.getElem_toArray, List.getElem_cons_zero, List.getElem_cons_succ, List.setIfInBounds_toArray, List.set_cons_zero, List.set_cons_succ]
    refine ⟨_, ?_, rfl, Or.inl ⟨by rfl, fun wq hSw => Uniform.UStep.value (w' := wq) ?_ hSw⟩, ?_⟩
    rotate_left
    · obtain ⟨q0, q1, q2, q3, q4⟩ := hSw
      obtain ⟨qc0, qf0⟩ := row_facts q0
      obtain ⟨qc1, qf1⟩ := row_facts q1
      obtain ⟨qc2, qf2⟩ := row_facts q2
      go_simp
      rfl
    simp only [Act.put, List.getElem_toArray, List.getElem_cons_zero, List.getElem_cons_succ, List.setIfInBounds_toArray, List.set_cons_zero, List.set_cons_succ]
    refine ⟨_, ?_, rfl, Or.inl ⟨by rfl, fun wq hSw => Uniform.UStep.value (w' := wq) ?_ hSw⟩, ?_⟩
    rotate_left
    · obtain ⟨q0, q1, q2, q3, q4⟩ := hSw
      obtain ⟨qc0, qf0⟩ := row_facts q0
      obtain ⟨qc1, qf1⟩ := row_facts q1
      obtain ⟨qc2, qf2⟩ := row_facts q2
      go_simp
      rfl
    simp only [Act.put, List.getElem_toArray, List.getElem_cons_zero, List.getElem_cons_succ, List.setIfInBounds_toArray, List.set_cons_zero, List.set_cons_succ]
    refine ⟨_, ?_, rfl, Or.inl ⟨by rfl, fun wq hSw => Uniform.UStep.call (w' := wq) ?_ ((HC.out wq hSw.2.2.2.1).mono ?_)⟩, ?_⟩
    rotate_left
    · obtain ⟨q0, q1, q2, q3, q4⟩ := hSw
      obtain ⟨qc0, qf0⟩ := row_facts q0
      obtain ⟨qc1, qf1⟩ := row_facts q1
      obtain ⟨qc2, qf2⟩ := row_facts q2
      go_simp
      first | done | rfl | exact ⟨⟨rfl, rfl⟩, rfl⟩ | exact ⟨rfl, rfl⟩
    · have hSk := hSw
      obtain ⟨q0, q1, q2, q3, q4⟩ := hSw
      rintro e wq2 ⟨rfl, hbq⟩
      refine ⟨?_, (hbq.block _ (lt_row q0)).trans q0, (hbq.block _ (lt_row q1)).trans q1, (hbq.block _ (lt_row q2)).trans q2, q3.below hbq, q4.trans (hbq.mono q4.size)⟩
      rfl
    simp only [Act.put, List.getElem_toArray, List.getElem_cons_zero, List.getElem_cons_succ, List.setIfInBounds_toArray, List.set_cons_zero, List.set_cons_succ]
    refine ⟨_, ?_, rfl, Or.inl ⟨by rfl, fun wq hSw => Uniform.UStep.value (w' := wq) ?_ hSw⟩, ?_⟩
    rotate_left
    · obtain ⟨q0, q1, q2, q3, q4⟩ := hSw
      obtain ⟨qc0, qf0⟩ := row_facts q0
      obtain ⟨qc1, qf1⟩ := row_facts q1
      obtain ⟨qc2, qf2⟩ := row_facts q2
      go_simp
      rfl
    simp only [Act.put, List.getElem_toArray, List.getElem_cons_zero, List.getElem_cons_succ, List.setIfInBounds_toArray, List.set_cons_zero, List.set_cons_succ]
    refine ⟨_, ?_, rfl, Or.inl ⟨by rfl, fun wq hSw => Uniform.UStep.call (w' := wq) ?_ ((GC.out wq).mono ?_)⟩, ?_⟩
    rotate_left
    · obtain ⟨q0, q1, q2, q3, q4⟩ := hSw
      obtain ⟨qc0, qf0⟩ := row_facts q0
      obtain ⟨qc1, qf1⟩ := row_facts q1
      obtain ⟨qc2, qf2⟩ := row_facts q2
      go_simp
      first | done | rfl | exact ⟨⟨rfl, rfl⟩, rfl⟩ | exact ⟨rfl, rfl⟩
    · have hSk := hSw
      obtain ⟨q0, q1, q2, q3, q4⟩ := hSw
      rintro e wq2 ⟨rfl, hbq⟩
      refine ⟨?_, (hbq.block _ (lt_row q0)).trans q0, (hbq.block _ (lt_row q1)).trans q1, (hbq.block _ (lt_row q2)).trans q2, q3.below hbq, q4.trans (hbq.mono q4.size)⟩
      rfl
    simp only [Act.put, List.getElem_toArray, List.getElem_cons_zero, List.getElem_cons_succ, List.setIfInBounds_toArray, List.set_cons_zero, List.set_cons_succ]
    refine ⟨_, ?_, rfl, Or.inl ⟨by rfl, fun wq hSw => Uniform.UStep.value (w' := wq) ?_ hSw⟩, ?_⟩
    rotate_left
    · obtain ⟨q0, q1, q2, q3, q4⟩ := hSw
      obtain ⟨qc0, qf0⟩ := row_facts q0
      obtain ⟨qc1, qf1⟩ := row_facts q1
      obtain ⟨qc2, qf2⟩ := row_facts q2
      go_simp
      rfl
    simp only [Act.put, List.getElem_toArray, List.getElem_cons_zero, List.getElem_cons_succ, List.setIfInBounds_toArray, List.set_cons_zero, List.set_cons_succ]
    refine ⟨_, ?_, rfl, Or.inl ⟨by rfl, fun wq hSw => Uniform.UStep.value (w' := wq) ?_ hSw⟩, ?_⟩
    rotate_left
    · obtain ⟨q0, q1, q2, q3, q4⟩ := hSw
      obtain ⟨qc0, qf0⟩ := row_facts q0
      obtain ⟨qc1, qf1⟩ := row_facts q1
      obtain ⟨qc2, qf2⟩ := row_facts q2
      go_simp
      rfl
    simp only [Act.put, List.getElem_toArray, List.getElem_cons_zero, List.getElem_cons_succ, List.setIfInBounds_toArray, List.set_cons_zero, List.set_cons_succ]
    refine ⟨_, ?_, rfl, Or.inl ⟨by rfl, fun wq hSw => Uniform.UStep.value (w' := wq) ?_ hSw⟩, ?_⟩
    rotate_left
    · obtain ⟨q0, q1, q2, q3, q4⟩ := hSw
      obtain ⟨qc0, qf0⟩ := row_facts q0
      obtain ⟨qc1, qf1⟩ := row_facts q1
      obtain ⟨qc2, qf2⟩ := row_facts q2
      go_simp
      rfl
    simp only [Act.put, List.getElem_toArray, List.getElem_cons_zero, List.getElem_cons_succ, List.setIfInBounds_toArray, List.set_cons_zero, List.set_cons_succ]
    refine ⟨_, ?_, rfl, Or.inl ⟨by rfl, fun wq hSw => Uniform.UStep.value (w' := wq) ?_ hSw⟩, ?_⟩
    rotate_left
    · obtain ⟨q0, q1, q2, q3, q4⟩ := hSw
      obtain ⟨qc0, qf0⟩ := row_facts q0
      obtain ⟨qc1, qf1⟩ := row_facts q1
      obtain ⟨qc2, qf2⟩ := row_facts q2
      go_simp
      rfl
    simp only [Act.put, List.getElem_toArray, List.getElem_cons_zero, List.getElem_cons_succ, List.setIfInBounds_toArray, List.set_cons_zero, List.set_cons_succ]
    refine ⟨_, ?_, rfl, Or.inl ⟨by rfl, fun wq hSw => Uniform.UStep.value (w' := wq) ?_ hSw⟩, ?_⟩
    rotate_left
    · obtain ⟨q0, q1, q2, q3, q4⟩ := hSw
      obtain ⟨qc0, qf0⟩ := row_facts q0
      obtain ⟨qc1, qf1⟩ := row_facts q1
      obtain ⟨qc2, qf2⟩ := row_facts q2
      go_simp
      rfl
    simp only [Act.put, List.getElem_toArray, List.getElem_cons_zero, List.getElem_cons_succ, List.setIfInBounds_toArray, List.set_cons_zero, List.set_cons_succ]
    refine ⟨_, ?_, rfl, Or.inl ⟨by rfl, fun wq hSw => Uniform.UStep.value (w' := wq) ?_ hSw⟩, ?_⟩
    rotate_left
    · obtain ⟨q0, q1, q2, q3, q4⟩ := hSw
      obtain ⟨qc0, qf0⟩ := row_facts q0
      obtain ⟨qc1, qf1⟩ := row_facts q1
      obtain ⟨qc2, qf2⟩ := row_facts q2
      go_simp
      rfl
    simp only [Act.put, List.getElem_toArray, List.getElem_cons_zero, List.getElem_cons_succ, List.setIfInBounds_toArray, List.set_cons_zero, List.set_cons_succ]
    refine ⟨_, ?_, rfl, Or.inl ⟨by rfl, fun wq hSw => Uniform.UStep.value (w' := wq) ?_ hSw⟩, ?_⟩
    rotate_left
    · obtain ⟨q0, q1, q2, q3, q4⟩ := hSw
      obtain ⟨qc0, qf0⟩ := row_facts q0
      obtain ⟨qc1, qf1⟩ := row_facts q1
      obtain ⟨qc2, qf2⟩ := row_facts q2
      go_simp
      rfl
    simp only [Act.put, List.getElem_toArray, List.getElem_cons_zero, List.getElem_cons_succ, List.setIfInBounds_toArray, List.set_cons_zero, List.set_cons_succ]
    refine ⟨_, ?_, rfl, Or.inl ⟨by rfl, fun wq hSw => Uniform.UStep.value (w' := wq) ?_ hSw⟩, ?_⟩
    rotate_left
    · obtain ⟨q0, q1, q2, q3, q4⟩ := hSw
      obtain ⟨qc0, qf0⟩ := row_facts q0
      obtain ⟨qc1, qf1⟩ := row_facts q1
      obtain ⟨qc2, qf2⟩ := row_facts q2
      go_simp
      rfl
    simp only [Act.put, List.getElem_toArray, List.getElem_cons_zero, List.getElem_cons_succ, List.setIfInBounds_toArray, List.set_cons_zero, List.set_cons_succ]
    refine ⟨_, ?_, rfl, Or.inl ⟨by rfl, fun wq hSw => Uniform.UStep.value (w' := wq) ?_ hSw⟩, ?_⟩
    rotate_left
    · obtain ⟨q0, q1, q2, q3, q4⟩ := hSw
      obtain ⟨qc0, qf0⟩ := row_facts q0
      obtain ⟨qc1, qf1⟩ := row_facts q1
      obtain ⟨qc2, qf2⟩ := row_facts q2
      go_simp
      rfl
    simp only [Act.put, List.getElem_toArray, List.getElem_cons_zero, List.getElem_cons_succ, List.setIfInBounds_toArray, List.set_cons_zero, List.set_cons_succ]
    refine ⟨_, ?_, rfl, Or.inl ⟨by rfl, fun wq hSw => Uniform.UStep.value (w' := wq) ?_ hSw⟩, ?_⟩
    rotate_left
    · obtain ⟨q0, q1, q2, q3, q4⟩ := hSw
      obtain ⟨qc0, qf0⟩ := row_facts q0
      obtain ⟨qc1, qf1⟩ := row_facts q1
      obtain ⟨qc2, qf2⟩ := row_facts q2
      go_simp
      rfl
    simp only [Act.put, List.getElem_toArray, List.getElem_cons_zero, List.getElem_cons_succ, List.setIfInBounds_toArray, List.set_cons_zero, List.set_cons_succ]
    refine ⟨_, ?_, rfl, Or.inl ⟨by rfl, fun wq hSw => Uniform.UStep.value (w' := wq) ?_ hSw⟩, ?_⟩
    rotate_left
    · obtain ⟨q0, q1, q2, q3, q4⟩ := hSw
      obtain ⟨qc0, qf0⟩ := row_facts q0
      obtain ⟨qc1, qf1⟩ := row_facts q1
      obtain ⟨qc2, qf2⟩ := row_facts q2
      go_simp
      rfl
    simp only [Act.put, List.getElem_toArray, List.getElem_cons_zero, List.getElem_cons_succ, List.setIfInBounds_toArray, List.set_cons_zero, List.set_cons_succ]
    refine ⟨_, ?_, rfl, Or.inl ⟨by rfl, fun wq hSw => Uniform.UStep.value (w' := wq) ?_ hSw⟩, ?_⟩
    rotate_left
    · obtain ⟨q0, q1, q2, q3, q4⟩ := hSw
      obtain ⟨qc0, qf0⟩ := row_facts q0
      obtain ⟨qc1, qf1⟩ := row_facts q1
      obtain ⟨qc2, qf2⟩ := row_facts q2
      go_simp
      rfl
    simp only [Act.put, List.getElem_toArray, List.getElem_cons_zero, List.getElem_cons_succ, List.setIfInBounds_toArray, List.set_cons_zero, List.set_cons_succ]
    refine ⟨_, ?_, rfl, Or.inl ⟨by rfl, fun wq hSw => Uniform.UStep.value (w' := wq) ?_ hSw⟩, ?_⟩
    rotate_left
    · obtain ⟨q0, q1, q2, q3, q4⟩ := hSw
      obtain ⟨qc0, qf0⟩ := row_facts q0
      obtain ⟨qc1, qf1⟩ := row_facts q1
      obtain ⟨qc2, qf2⟩ := row_facts q2
      go_simp
      rfl
    simp only [Act.put, List.getElem_toArray, List.getElem_cons_zero, List.getElem_cons_succ, List.setIfInBounds_toArray, List.set_cons_zero, List.set_cons_succ]
    refine ⟨_, ?_, rfl, Or.inl ⟨by rfl, fun wq hSw => Uniform.UStep.value (w' := wq) ?_ hSw⟩, ?_⟩
    rotate_left
    · obtain ⟨q0, q1, q2, q3, q4⟩ := hSw
      obtain ⟨qc0, qf0⟩ := row_facts q0
      obtain ⟨qc1, qf1⟩ := row_facts q1
      obtain ⟨qc2, qf2⟩ := row_facts q2
      go_simp
      rfl
    simp only [Act.put, List.getElem_toArray, List.getElem_cons_zero, List.getElem_cons_succ, List.setIfInBounds_toArray, List.set_cons_zero, List.set_cons_succ]
    refine ⟨_, ?_, rfl, Or.inl ⟨by rfl, fun wq hSw => Uniform.UStep.value (w' := wq) ?_ hSw⟩, ?_⟩
    rotate_left
    · obtain ⟨q0, q1, q2, q3, q4⟩ := hSw
      obtain ⟨qc0, qf0⟩ := row_facts q0
      obtain ⟨qc1, qf1⟩ := row_facts q1
      obtain ⟨qc2, qf2⟩ := row_facts q2
      go_simp
      rfl
    simp only [Act.put, List.getElem_toArray, List.getElem_cons_zero, List.getElem_cons_succ, List.setIfInBounds_toArray, List.set_cons_zero, List.set_cons_succ]
    refine ⟨_, ?_, rfl, Or.inl ⟨by rfl, fun wq hSw => Uniform.UStep.value (w' := wq) ?_ hSw⟩, ?_⟩
    rotate_left
    · obtain ⟨q0, q1, q2, q3, q4⟩ := hSw
      obtain ⟨qc0, qf0⟩ := row_facts q0
      obtain ⟨qc1, qf1⟩ := row_facts q1
      obtain ⟨qc2, qf2⟩ := row_facts q2
      go_simp
      rfl
    simp only [Act.put, List.getElem_toArray, List.getElem_cons_zero, List.getElem_cons_succ, List.setIfInBounds_toArray, List.set_cons_zero, List.set_cons_succ]
    refine ⟨_, ?_, rfl, Or.inl ⟨by rfl, fun wq hSw => Uniform.UStep.value (w' := wq) ?_ hSw⟩, ?_⟩
    rotate_left
    · obtain ⟨q0, q1, q2, q3, q4⟩ := hSw
      obtain ⟨qc0, qf0⟩ := row_facts q0
      obtain ⟨qc1, qf1⟩ := row_facts q1
      obtain ⟨qc2, qf2⟩ := row_facts q2
      go_simp
      rfl
    simp only [Act.put, List.getElem_toArray, List.getElem_cons_zero, List.getElem_cons_succ, List.setIfInBounds_toArray, List.set_cons_zero, List.set_cons_succ]
    refine ⟨_, ?_, rfl, Or.inl ⟨by rfl, fun wq hSw => Uniform.UStep.value (w' := wq) ?_ hSw⟩, ?_⟩
    rotate_left
    · obtain ⟨q0, q1, q2, q3, q4⟩ := hSw
      obtain ⟨qc0, qf0⟩ := row_facts q0
      obtain ⟨qc1, qf1⟩ := row_facts q1
      obtain ⟨qc2, qf2⟩ := row_facts q2
      go_simp
      rfl
    simp only [Act.put, List.getElem_toArray, List.getElem_cons_zero, List.getElem_cons_succ, List.setIfInBounds_toArray, List.set_cons_zero, List.set_cons_succ]
    refine ⟨_, ?_, rfl, Or.inl ⟨by rfl, fun wq hSw => Uniform.UStep.value (w' := wq) ?_ hSw⟩, ?_⟩
    rotate_left
    · obtain ⟨q0, q1, q2, q3, q4⟩ := hSw
      obtain ⟨qc0, qf0⟩ := row_facts q0
      obtain ⟨qc1, qf1⟩ := row_facts q1
      obtain ⟨qc2, qf2⟩ := row_facts q2
      go_simp
      rfl
    simp only [Act.put, List.getElem_toArray, List.getElem_cons_zero, List.getElem_cons_succ, List.setIfInBounds_toArray, List.set_cons_zero, List.set_cons_succ]
    refine ⟨_, ?_, rfl, Or.inl ⟨by rfl, fun wq hSw => Uniform.UStep.value (w' := wq) ?_ hSw⟩, ?_⟩
    rotate_left
    · obtain ⟨q0, q1, q2, q3, q4⟩ := hSw
      obtain ⟨qc0, qf0⟩ := row_facts q0
      obtain ⟨qc1, qf1⟩ := row_facts q1
      obtain ⟨qc2, qf2⟩ := row_facts q2
      go_simp
      rfl
    simp only [Act.put, List.getElem_toArray, List.getElem_cons_zero, List.getElem_cons_succ, List.setIfInBounds_toArray, List.set_cons_zero, List.set_cons_succ]
    refine ⟨_, ?_, rfl, Or.inl ⟨by rfl, fun wq hSw => Uniform.UStep.value (w' := wq) ?_ hSw⟩, ?_⟩
    rotate_left
    · obtain ⟨q0, q1, q2, q3, q4⟩ := hSw
      obtain ⟨qc0, qf0⟩ := row_facts q0
      obtain ⟨qc1, qf1⟩ := row_facts q1
      obtain ⟨qc2, qf2⟩ := row_facts q2
      go_simp
      rfl
    simp only [Act.put, List.getElem_toArray, List.getElem_cons_zero, List.getElem_cons_succ, List.setIfInBounds_toArray, List.set_cons_zero, List.set_cons_succ]
    refine ⟨_, ?_, rfl, Or.inl ⟨by rfl, fun wq hSw => Uniform.UStep.value (w' := wq) ?_ hSw⟩, ?_⟩
    rotate_left
    · obtain ⟨q0, q1, q2, q3, q4⟩ := hSw
      obtain ⟨qc0, qf0⟩ := row_facts q0
      obtain ⟨qc1, qf1⟩ := row_facts q1
      obtain ⟨qc2, qf2⟩ := row_facts q2
      go_simp
      rfl
    simp only [Act.put, List.getElem_toArray, List.getElem_cons_zero, List.getElem_cons_succ, List.setIfInBounds_toArray, List.set_cons_zero, List.set_cons_succ]
    refine ⟨_, ?_, rfl, Or.inl ⟨by rfl, fun wq hSw => Uniform.UStep.value (w' := wq) ?_ hSw⟩, ?_⟩
    rotate_left
    · obtain ⟨q0, q1, q2, q3, q4⟩ := hSw
      obtain ⟨qc0, qf0⟩ := row_facts q0
      obtain ⟨qc1, qf1⟩ := row_facts q1
      obtain ⟨qc2, qf2⟩ := row_facts q2
      go_simp
      rfl
    simp only [Act.put, List.getElem_toArray, List.getElem_cons_zero, List.getElem_cons_succ, List.setIfInBounds_toArray, List.set_cons_zero, List.set_cons_succ]
    refine ⟨_, ?_, rfl, Or.inl ⟨by rfl, fun wq hSw => Uniform.UStep.value (w' := wq) ?_ hSw⟩, ?_⟩
    rotate_left
    · obtain ⟨q0, q1, q2, q3, q4⟩ := hSw
      obtain ⟨qc0, qf0⟩ := row_facts q0
      obtain ⟨qc1, qf1⟩ := row_facts q1
      obtain ⟨qc2, qf2⟩ := row_facts q2
      go_simp
      rfl
    simp only [Act.put, List.getElem_toArray, List.getElem_cons_zero, List.getElem_cons_succ, List.setIfInBounds_toArray, List.set_cons_zero, List.set_cons_succ]
    refine ⟨_, ?_, rfl, Or.inl ⟨by rfl, fun wq hSw => Uniform.UStep.call (w' := wq) ?_ ((State_ok wq kk).mono ?_)⟩, ?_⟩
    rotate_left
    · obtain ⟨q0, q1, q2, q3, q4⟩ := hSw
      obtain ⟨qc0, qf0⟩ := row_facts q0
      obtain ⟨qc1, qf1⟩ := row_facts q1
      obtain ⟨qc2, qf2⟩ := row_facts q2
      go_simp
      first | done | rfl | exact ⟨⟨rfl, rfl⟩, rfl⟩ | exact ⟨rfl, rfl⟩
    · have hSk := hSw
      obtain ⟨q0, q1, q2, q3, q4⟩ := hSw
      rintro e wq2 ⟨rfl, rfl⟩
      refine ⟨?_, hSk⟩
      rfl
    simp only [Act.put, List.getElem_toArray, List.getElem_cons_zero, List.getElem_cons_succ, List.setIfInBounds_toArray, List.set_cons_zero, List.set_cons_succ]
    refine ⟨_, ?_, rfl, Or.inl ⟨by rfl, fun wq hSw => Uniform.UStep.value (w' := wq) ?_ hSw⟩, ?_⟩
    rotate_left
    · obtain ⟨q0, q1, q2, q3, q4⟩ := hSw
      obtain ⟨qc0, qf0⟩ := row_facts q0
      obtain ⟨qc1, qf1⟩ := row_facts q1
      obtain ⟨qc2, qf2⟩ := row_facts q2
      go_simp
      rfl
    simp only [Act.put, List.getElem_toArray, List.getElem_cons_zero, List.getElem_cons_succ, List.setIfInBounds_toArray, List.set_cons_zero, List.set_cons_succ]
    refine ⟨_, ?_, rfl, Or.inl ⟨by rfl, fun wq hSw => Uniform.UStep.call (w' := wq) ?_ ((GS.out wq).mono ?_)⟩, ?_⟩
    rotate_left
    · obtain ⟨q0, q1, q2, q3, q4⟩ := hSw
      obtain ⟨qc0, qf0⟩ := row_facts q0
      obtain ⟨qc1, qf1⟩ := row_facts q1
      obtain ⟨qc2, qf2⟩ := row_facts q2
      go_simp
      first | done | rfl | exact ⟨⟨rfl, rfl⟩, rfl⟩ | exact ⟨rfl, rfl⟩
    · have hSk := hSw
      obtain ⟨q0, q1, q2, q3, q4⟩ := hSw
      rintro e wq2 ⟨rfl, hbq⟩
      refine ⟨?_, (hbq.block _ (lt_row q0)).trans q0, (hbq.block _ (lt_row q1)).trans q1, (hbq.block _ (lt_row q2)).trans q2, q3.below hbq, q4.trans (hbq.mono q4.size)⟩
      rfl
    simp only [Act.put, List.getElem_toArray, List.getElem_cons_zero, List.getElem_cons_succ, List.setIfInBounds_toArray, List.set_cons_zero, List.set_cons_succ]
    refine ⟨_, ?_, rfl, Or.inl ⟨by rfl, fun wq hSw => Uniform.UStep.value (w' := wq) ?_ hSw⟩, ?_⟩
    rotate_left
    · obtain ⟨q0, q1, q2, q3, q4⟩ := hSw
      obtain ⟨qc0, qf0⟩ := row_facts q0
      obtain ⟨qc1, qf1⟩ := row_facts q1
      obtain ⟨qc2, qf2⟩ := row_facts q2
      go_simp
      rfl
    simp only [Act.put, List.getElem_toArray, List.getElem_cons_zero, List.getElem_cons_succ, List.setIfInBounds_toArray, List.set_cons_zero, List.set_cons_succ]
    refine ⟨_, ?_, rfl, Or.inl ⟨by rfl, fun wq hSw => Uniform.UStep.value (w' := wq) ?_ hSw⟩, ?_⟩
    rotate_left
    · obtain ⟨q0, q1, q2, q3, q4⟩ := hSw
      obtain ⟨qc0, qf0⟩ := row_facts q0
      obtain ⟨qc1, qf1⟩ := row_facts q1
      obtain ⟨qc2, qf2⟩ := row_facts q2
      go_simp
      rfl
    simp only [Act.put, List.getElem_toArray, List.getElem_cons_zero, List.getElem_cons_succ, List.setIfInBounds_toArray, List.set_cons_zero, List.set_cons_succ]
    refine ⟨_, ?_, rfl, Or.inl ⟨by rfl, fun wq hSw => Uniform.UStep.value (w' := wq) ?_ hSw⟩, ?_⟩
    rotate_left
    · obtain ⟨q0, q1, q2, q3, q4⟩ := hSw
      obtain ⟨qc0, qf0⟩ := row_facts q0
      obtain ⟨qc1, qf1⟩ := row_facts q1
      obtain ⟨qc2, qf2⟩ := row_facts q2
      go_simp
      rfl
    simp only [Act.put, List.getElem_toArray, List.getElem_cons_zero, List.getElem_cons_succ, List.setIfInBounds_toArray, List.set_cons_zero, List.set_cons_succ]
    refine ⟨_, ?_, rfl, Or.inl ⟨by rfl, fun wq hSw => Uniform.UStep.value (w' := wq) ?_ hSw⟩, ?_⟩
    rotate_left
    · obtain ⟨q0, q1, q2, q3, q4⟩ := hSw
      obtain ⟨qc0, qf0⟩ := row_facts q0
      obtain ⟨qc1, qf1⟩ := row_facts q1
      obtain ⟨qc2, qf2⟩ := row_facts q2
      go_simp
      rfl
    simp only [Act.put, List.getElem_toArray, List.getElem_cons_zero, List.getElem_cons_succ, List.setIfInBounds_toArray, List.set_cons_zero, List.set_cons_succ]
    refine ⟨_, ?_, rfl, Or.inl ⟨by rfl, fun wq hSw => Uniform.UStep.call (w' := wq) ?_ ((HW.out wq kk hSw.2.2.2.1 rfl).mono ?_)⟩, ?_⟩
    rotate_left
    · obtain ⟨q0, q1, q2, q3, q4⟩ := hSw
      obtain ⟨qc0, qf0⟩ := row_facts q0
      obtain ⟨qc1, qf1⟩ := row_facts q1
      obtain ⟨qc2, qf2⟩ := row_facts q2
      go_simp
      first | done | rfl | exact ⟨⟨rfl, rfl⟩, rfl⟩ | exact ⟨rfl, rfl⟩
    · have hSk := hSw
      obtain ⟨q0, q1, q2, q3, q4⟩ := hSw
      rintro e wq2 ⟨rfl, rfl⟩
      refine ⟨?_, hSk⟩
      rfl
    simp only [Act.put, List.getElem_toArray, List.getElem_cons_zero, List.getElem_cons_succ, List.setIfInBounds_toArray, List.set_cons_zero, List.set_cons_succ]
    refine ⟨_, ?_, rfl, Or.inl ⟨by rfl, fun wq hSw => Uniform.UStep.value (w' := wq) ?_ hSw⟩, ?_⟩
    rotate_left
    · obtain ⟨q0, q1, q2, q3, q4⟩ := hSw
      obtain ⟨qc0, qf0⟩ := row_facts q0
      obtain ⟨qc1, qf1⟩ := row_facts q1
      obtain ⟨qc2, qf2⟩ := row_facts q2
      go_simp
      rfl
    simp only [Act.put, List.getElem_toArray, List.getElem_cons_zero, List.getElem_cons_succ, List.setIfInBounds_toArray, List.set_cons_zero, List.set_cons_succ]
    refine ⟨_, ?_, rfl, Or.inl ⟨by rfl, fun wq hSw => Uniform.UStep.call (w' := wq) ?_ ((GW.out wq).mono ?_)⟩, ?_⟩
    rotate_left
    · obtain ⟨q0, q1, q2, q3, q4⟩ := hSw
      obtain ⟨qc0, qf0⟩ := row_facts q0
      obtain ⟨qc1, qf1⟩ := row_facts q1
      obtain ⟨qc2, qf2⟩ := row_facts q2
      go_simp
      first | done | rfl | exact ⟨⟨rfl, rfl⟩, rfl⟩ | exact ⟨rfl, rfl⟩
    · have hSk := hSw
      obtain ⟨q0, q1, q2, q3, q4⟩ := hSw
      rintro e wq2 ⟨rfl, hbq⟩
      refine ⟨?_, (hbq.block _ (lt_row q0)).trans q0, (hbq.block _ (lt_row q1)).trans q1, (hbq.block _ (lt_row q2)).trans q2, q3.below hbq, q4.trans (hbq.mono q4.size)⟩
      rfl
    simp only [Act.put, List.getElem_toArray, List.getElem_cons_zero, List.getElem_cons_succ, List.setIfInBounds_toArray, List.set_cons_zero, List.set_cons_succ]
    refine ⟨_, ?_, rfl, Or.inl ⟨by rfl, fun wq hSw => Uniform.UStep.value (w' := wq) ?_ hSw⟩, ?_⟩
    rotate_left
    · obtain ⟨q0, q1, q2, q3, q4⟩ := hSw
      obtain ⟨qc0, qf0⟩ := row_facts q0
      obtain ⟨qc1, qf1⟩ := row_facts q1
      obtain ⟨qc2, qf2⟩ := row_facts q2
      go_simp
      rfl
    simp only [Act.put, List.getElem_toArray, List.getElem_cons_zero, List.getElem_cons_succ, List.setIfInBounds_toArray, List.set_cons_zero, List.set_cons_succ]
    refine ⟨_, ?_, rfl, Or.inl ⟨by rfl, fun wq hSw => Uniform.UStep.value (w' := wq) ?_ hSw⟩, ?_⟩
    rotate_left
    · obtain ⟨q0, q1, q2, q3, q4⟩ := hSw
      obtain ⟨qc0, qf0⟩ := row_facts q0
      obtain ⟨qc1, qf1⟩ := row_facts q1
      obtain ⟨qc2, qf2⟩ := row_facts q2
      go_simp
      rfl
    simp only [Act.put, List.getElem_toArray, List.getElem_cons_zero, List.getElem_cons_succ, List.setIfInBounds_toArray, List.set_cons_zero, List.set_cons_succ]
    refine ⟨_, ?_, rfl, Or.inl ⟨by rfl, fun wq hSw => Uniform.UStep.value (w' := wq) ?_ hSw⟩, ?_⟩
    rotate_left
    · obtain ⟨q0, q1, q2, q3, q4⟩ := hSw
      obtain ⟨qc0, qf0⟩ := row_facts q0
      obtain ⟨qc1, qf1⟩ := row_facts q1
      obtain ⟨qc2, qf2⟩ := row_facts q2
      go_simp
      rfl
    simp only [Act.put, List.getElem_toArray, List.getElem_cons_zero, List.getElem_cons_succ, List.setIfInBounds_toArray, List.set_cons_zero, List.set_cons_succ]
    rintro w6 ⟨_, _, _, _, HB6⟩
    have HB7 := Lib.hid HB6
    clear HB6 hx4 hy4 hz4
    go_wp2
    go_ret
    exact ⟨rfl, HB7.out⟩

end Go.Proofs.YtfodloepkgkilaaDoor.EventTellsW
