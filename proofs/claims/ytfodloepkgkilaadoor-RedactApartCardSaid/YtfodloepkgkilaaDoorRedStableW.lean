/-
  WHAT IS PROVED: the statement's function that asks whether what is left of an event has its sum answers true. Condition: the variables hold what 'VarsR' says, and the strings are not longer than the theorem says.
-/
import Derived.Test.YtfodloepkgkilaaDoorRedL
namespace Go.Proofs.YtfodloepkgkilaaDoor.RedStableW
open Go Go.RowKit Go.Proofs.YtfodloepkgkilaaDoor Go.Proofs.YtfodloepkgkilaaDoor.OctetS Go.Proofs.YtfodloepkgkilaaDoor.IdentS Go.Proofs.YtfodloepkgkilaaDoor.EventS Go.Proofs.YtfodloepkgkilaaDoor.OctP Go.Proofs.YtfodloepkgkilaaDoor.IdentP Go.Proofs.YtfodloepkgkilaaDoor.EventP Go.Proofs.YtfodloepkgkilaaDoor.EventC Go.Proofs.YtfodloepkgkilaaDoor.EventB Go.Proofs.YtfodloepkgkilaaDoor.EventR Go.Proofs.YtfodloepkgkilaaDoor.ShaB Go.Proofs.YtfodloepkgkilaaDoor.ShaA Go.Proofs.YtfodloepkgkilaaDoor.Steps Go.Proofs.YtfodloepkgkilaaDoor.RedactS Go.Proofs.YtfodloepkgkilaaDoor.RedA Go.Proofs.YtfodloepkgkilaaDoor.RedB Go.Proofs.YtfodloepkgkilaaDoor.EqHash Go.Proofs.YtfodloepkgkilaaDoor.RedL
set_option linter.unusedVariables false
set_option linter.unusedSimpArgs false
attribute [local go_sem] EqEvent.eqEvent eqHash
attribute [-go_sem] run_equalIn_agg

theorem refV_some (x : Ev) : ∃ (l : List UInt8) (E : Int), l.length ≤ 32 ∧ refV x = .tuple #[.agg (pB 32 l), .int .i64 E] := by
  unfold refV hV
  cases checkB x
  · exact ⟨[], 2, by simp, rfl⟩
  · exact ⟨_, 0, Nat.le_of_eq (refSum_length x), rfl⟩

set_option maxRecDepth 100000 in
set_option maxHeartbeats 4000000 in
theorem stable_ok (w : World) (hv : VarsR w) (r s : ByteArray) (k : Int) (ky b : ByteArray) (n : Int) (hr : r.size ≤ 140737488351232) (hs : s.size ≤ 140737488351232) (hk : ky.size ≤ 140737488351232) (hb : b.size ≤ maxLen) :
    Calls Tryd.prog 6 #[evV r s k ky b n] w (RB (.bool true) w) := by
  have h1 : True := trivial
  have h2 := fun w => Redact_ok w r s k ky b n
  have h3 := fun w hv => Ref_ok w r s k ky b n hv hr hs hk hb
  have h4 := fun w hv => Ref_ok w r s k ky (bodyOf k b) n hv hr hs hk (Nat.le_trans (bodyOf_size k b) hb)
  have h5 := fun w (hv : VarsR w) => Redact_ok w r s k ky (bodyOf k b) n
  rw [bodyOf_twice] at h5
  have h6 := fun w (hv : VarsR w) => Check_ok w r s k ky (bodyOf k b) n hv.e.i hr hs hk (Nat.le_trans (bodyOf_size k b) hb)
  have h7 := fun w (hv : VarsR w) => Check_ok w r s k ky b n hv.e.i hr hs hk hb
  rw [evOf_redact] at h4 h6
  obtain ⟨B, hB⟩ : ∃ B, B = bodyOf k b := ⟨_, rfl⟩
  rw [← hB] at h2 h4 h5 h6
  have hG := EqEvent.guardEvent
  have hGH := guardHash
  obtain ⟨w0, hw0⟩ : ∃ w0, w0 = w.alloc (.cells #[.string r, .string s, .int .u8 k, .string ky, .string b, .int .i64 n] 36) := ⟨_, rfl⟩
  have hB0 : Below w.heap.size w w0 := by rw [hw0]; exact (Below.refl _ w).alloc (Nat.le_refl _) _
  have hx0 : w0.heap[w.heap.size]? = some (.cells #[.string r, .string s, .int .u8 k, .string ky, .string b, .int .i64 n] 36 (0, 0)) := by rw [hw0]; exact heap_new _ _
  have hl0 := lt_row hx0
  have HV0 := Lib.hid (hv.below hB0)
  have HB0 := Lib.hid hB0
  have Hw0 := Lib.hid hw0
  clear hv hB0 hw0 hB hr hs hk hb
  cases hchk : checkB (evOf r s k ky b n)
  · obtain ⟨lB, E, hllB, hE⟩ := refV_some (redact (evOf r s k ky b n))
    obtain ⟨lA, eA⟩ : ∃ l : List UInt8, l = [] := ⟨_, rfl⟩
    have hllA : lA.length ≤ 32 := by rw [eA]; simp
    have hrA : refV (evOf r s k ky b n) = .tuple #[.agg (pB 32 lA), .int .i64 2] := by
      unfold refV
      rw [hchk, eA]
      rfl
    rw [hrA] at h3
    rw [hE] at h4
    rw [hchk] at h7
    unfold evV at *
    have H7 := Lib.hid h7
    clear h7 hE hrA eA hchk
    have hi : (Tryd.prog.info? 38).map (·.size) = some 32 := by kernel_rfl
    have HIslA := Lib.hid (show (Tryd.prog.info? 38).map (·.size) = some (pB 32 lA).size by rw [pB_size hllA]; exact hi)
    have HLlA := Lib.hid hllA
    have HIslB := Lib.hid (show (Tryd.prog.info? 38).map (·.size) = some (pB 32 lB).size by rw [pB_size hllB]; exact hi)
    have HLlB := Lib.hid hllB
    have H1 := Lib.hid h1
    have H2 := Lib.hid h2
    have H3 := Lib.hid h3
    have H4 := Lib.hid h4
    have H5 := Lib.hid h5
    have H6 := Lib.hid h6
    clear h1 h2 h3 h4 h5 h6 hi hllA hllB
    go_enter Tryd.func6, Tryd.ntmps6
    go_wp2_with fail
    rw [show (w.alloc (.cells #[.string r, .string s, .int .u8 k, .string ky, .string b, .int .i64 n] 36)) = w0 from Hw0.out.symm]
    refine (lives_ok w0 HV0.out).mono ?_
    rintro e w1 ⟨rfl, hb⟩
    have HV1 := Lib.hid (HV0.out.below hb)
    have HB1 := Lib.hid (HB0.out.trans (hb.mono HB0.out.size))
    have hx1 := (hb.block _ (lt_row hx0)).trans hx0
    clear hb
    obtain ⟨hc1, hf1⟩ := row_facts hx1
    go_wp2_with fail
    refine (H2.out w1).mono ?_
    rintro e w2 ⟨rfl, hb⟩
    have HV2 := Lib.hid (HV1.out.below hb)
    have HB2 := Lib.hid (HB1.out.trans (hb.mono HB1.out.size))
    have hx2 := (hb.block _ (lt_row hx1)).trans hx1
    clear hb hc1 hf1 hx1
    obtain ⟨hc2, hf2⟩ := row_facts hx2
    have hl2 := lt_row hx2
    go_wp2_with fail
    obtain ⟨wA, hwA⟩ : ∃ W, W = w2.alloc (.cells #[.string r, .string s, .int .u8 k, .string ky, .string B, .int .i64 n] 36) := ⟨_, rfl⟩
    have hb : Below w2.heap.size w2 wA := by rw [hwA]; exact (Below.refl _ w2).alloc (Nat.le_refl _) _
    have hyA : wA.heap[w2.heap.size]? = some (.cells #[.string r, .string s, .int .u8 k, .string ky, .string B, .int .i64 n] 36 (0, 0)) := by rw [hwA]; exact heap_new _ _
    rw [← hwA]
    have HVA := Lib.hid (HV2.out.below hb)
    have HBA := Lib.hid (HB2.out.trans (hb.mono HB2.out.size))
    have hxA := (hb.block _ (lt_row hx2)).trans hx2
    clear hb hwA hc2 hf2 hx2
    refine (H3.out wA HVA.out).mono ?_
    rintro e w3 ⟨rfl, hb⟩
    have HV3 := Lib.hid (HVA.out.below hb)
    have HB3 := Lib.hid (HBA.out.trans (hb.mono HBA.out.size))
    have hx3 := (hb.block _ (lt_row hxA)).trans hxA
    have hy3 := (hb.block _ (lt_row hyA)).trans hyA
    clear hb hxA hyA
    go_wp2_with (refine wpList_store_rowA rfl _ _ _ rfl w3.heap.size (pB 32 lA) rfl rfl _ _ (heap_new _ _) HIslA.out (by rw [pB_size HLlA.out]; rfl) (pB_one _ _) ?_)
    intro w4 hw4
    obtain ⟨hb4, hr4⟩ := row_new hw4
    have HV4 := Lib.hid (HV3.out.below hb4)
    have HB4 := Lib.hid (HB3.out.trans (hb4.mono HB3.out.size))
    have hx4 := (hb4.block _ (lt_row hx3)).trans hx3
    have hy4 := (hb4.block _ (lt_row hy3)).trans hy3
    have ha4 := hr4
    clear hb4 hr4 hw4 hx3 hy3
    obtain ⟨hc4, hf4⟩ := row_facts hy4
    have hl4 := lt_row hy4
    go_wp2_with fail
    refine (H4.out w4 HV4.out).mono ?_
    rintro e w5 ⟨rfl, hb⟩
    have HV5 := Lib.hid (HV4.out.below hb)
    have HB5 := Lib.hid (HB4.out.trans (hb.mono HB4.out.size))
    have hx5 := (hb.block _ (lt_row hx4)).trans hx4
    have hy5 := (hb.block _ (lt_row hy4)).trans hy4
    have ha5 := (hb.block _ (lt_row ha4)).trans ha4
    clear hb hy4 ha4 hc4 hf4 hx4
    go_wp2_with (refine wpList_store_rowA rfl _ _ _ rfl w5.heap.size (pB 32 lB) rfl rfl _ _ (heap_new _ _) HIslB.out (by rw [pB_size HLlB.out]; rfl) (pB_one _ _) ?_)
    intro w6 hw6
    obtain ⟨hb6, hr6⟩ := row_new hw6
    have HV6 := Lib.hid (HV5.out.below hb6)
    have HB6 := Lib.hid (HB5.out.trans (hb6.mono HB5.out.size))
    have hx6 := (hb6.block _ (lt_row hx5)).trans hx5
    have hy6 := (hb6.block _ (lt_row hy5)).trans hy5
    have ha6 := (hb6.block _ (lt_row ha5)).trans ha5
    have hb6' := hr6
    clear hb6 hr6 hw6 hx5 hy5 ha5
    have hb6 := hb6'
    clear hb6'
    obtain ⟨hc6, hf6⟩ := row_facts hx6
    have hl6 := lt_row hx6
    go_wp2_with fail
    refine (H7.out w6 HV6.out).mono ?_
    rintro e w7 ⟨rfl, hb⟩
    have HB7 := Lib.hid (HB6.out.trans (hb.mono HB6.out.size))
    clear hb
    rw [show whyOf false = 2 from rfl]
    go_wp2
    go_ret
    exact ⟨rfl, HB7.out⟩
  · have hchk2 : checkB (redact (evOf r s k ky b n)) = true := check_iff.2 (right_redact (check_iff.1 hchk))
    have hlen := refSum_length (evOf r s k ky b n)
    obtain ⟨lA, eA⟩ : ∃ l : List UInt8, l = refSum (evOf r s k ky b n) := ⟨_, rfl⟩
    have hllA : lA.length ≤ 32 := by rw [eA]; omega
    have hrA : refV (evOf r s k ky b n) = .tuple #[.agg (pB 32 lA), .int .i64 0] := by
      unfold refV
      rw [hchk, eA]
      rfl
    have hrB : refV (redact (evOf r s k ky b n)) = .tuple #[.agg (pB 32 lA), .int .i64 0] := by
      unfold refV
      rw [hchk2, eA, refSum_redact]
      rfl
    rw [hrA] at h3
    rw [hrB] at h4
    rw [hchk2] at h6
    unfold evV at *
    have hself := hEq_self lA
    clear h7 hrA hrB eA hchk hchk2 hlen
    have hi : (Tryd.prog.info? 38).map (·.size) = some 32 := by kernel_rfl
    have HIslA := Lib.hid (show (Tryd.prog.info? 38).map (·.size) = some (pB 32 lA).size by rw [pB_size hllA]; exact hi)
    have HLlA := Lib.hid hllA
    have H1 := Lib.hid h1
    have H2 := Lib.hid h2
    have H3 := Lib.hid h3
    have H4 := Lib.hid h4
    have H5 := Lib.hid h5
    have H6 := Lib.hid h6
    clear h1 h2 h3 h4 h5 h6 hi hllA
    go_enter Tryd.func6, Tryd.ntmps6
    go_wp2_with fail
    rw [show (w.alloc (.cells #[.string r, .string s, .int .u8 k, .string ky, .string b, .int .i64 n] 36)) = w0 from Hw0.out.symm]
    refine (lives_ok w0 HV0.out).mono ?_
    rintro e w1 ⟨rfl, hb⟩
    have HV1 := Lib.hid (HV0.out.below hb)
    have HB1 := Lib.hid (HB0.out.trans (hb.mono HB0.out.size))
    have hx1 := (hb.block _ (lt_row hx0)).trans hx0
    clear hb
    obtain ⟨hc1, hf1⟩ := row_facts hx1
    go_wp2_with fail
    refine (H2.out w1).mono ?_
    rintro e w2 ⟨rfl, hb⟩
    have HV2 := Lib.hid (HV1.out.below hb)
    have HB2 := Lib.hid (HB1.out.trans (hb.mono HB1.out.size))
    have hx2 := (hb.block _ (lt_row hx1)).trans hx1
    clear hb hc1 hf1 hx1
    obtain ⟨hc2, hf2⟩ := row_facts hx2
    have hl2 := lt_row hx2
    go_wp2_with fail
    obtain ⟨wA, hwA⟩ : ∃ W, W = w2.alloc (.cells #[.string r, .string s, .int .u8 k, .string ky, .string B, .int .i64 n] 36) := ⟨_, rfl⟩
    have hb : Below w2.heap.size w2 wA := by rw [hwA]; exact (Below.refl _ w2).alloc (Nat.le_refl _) _
    have hyA : wA.heap[w2.heap.size]? = some (.cells #[.string r, .string s, .int .u8 k, .string ky, .string B, .int .i64 n] 36 (0, 0)) := by rw [hwA]; exact heap_new _ _
    rw [← hwA]
    have HVA := Lib.hid (HV2.out.below hb)
    have HBA := Lib.hid (HB2.out.trans (hb.mono HB2.out.size))
    have hxA := (hb.block _ (lt_row hx2)).trans hx2
    clear hb hwA hc2 hf2 hx2
    refine (H3.out wA HVA.out).mono ?_
    rintro e w3 ⟨rfl, hb⟩
    have HV3 := Lib.hid (HVA.out.below hb)
    have HB3 := Lib.hid (HBA.out.trans (hb.mono HBA.out.size))
    have hx3 := (hb.block _ (lt_row hxA)).trans hxA
    have hy3 := (hb.block _ (lt_row hyA)).trans hyA
    clear hb hxA hyA
    go_wp2_with (refine wpList_store_rowA rfl _ _ _ rfl w3.heap.size (pB 32 lA) rfl rfl _ _ (heap_new _ _) HIslA.out (by rw [pB_size HLlA.out]; rfl) (pB_one _ _) ?_)
    intro w4 hw4
    obtain ⟨hb4, hr4⟩ := row_new hw4
    have HV4 := Lib.hid (HV3.out.below hb4)
    have HB4 := Lib.hid (HB3.out.trans (hb4.mono HB3.out.size))
    have hx4 := (hb4.block _ (lt_row hx3)).trans hx3
    have hy4 := (hb4.block _ (lt_row hy3)).trans hy3
    have ha4 := hr4
    clear hb4 hr4 hw4 hx3 hy3
    obtain ⟨hc4, hf4⟩ := row_facts hy4
    have hl4 := lt_row hy4
    go_wp2_with fail
    refine (H4.out w4 HV4.out).mono ?_
    rintro e w5 ⟨rfl, hb⟩
    have HV5 := Lib.hid (HV4.out.below hb)
    have HB5 := Lib.hid (HB4.out.trans (hb.mono HB4.out.size))
    have hx5 := (hb.block _ (lt_row hx4)).trans hx4
    have hy5 := (hb.block _ (lt_row hy4)).trans hy4
    have ha5 := (hb.block _ (lt_row ha4)).trans ha4
    clear hb hy4 ha4 hc4 hf4 hx4
    go_wp2_with (refine wpList_store_rowA rfl _ _ _ rfl w5.heap.size (pB 32 lA) rfl rfl _ _ (heap_new _ _) HIslA.out (by rw [pB_size HLlA.out]; rfl) (pB_one _ _) ?_)
    intro w6 hw6
    obtain ⟨hb6, hr6⟩ := row_new hw6
    have HV6 := Lib.hid (HV5.out.below hb6)
    have HB6 := Lib.hid (HB5.out.trans (hb6.mono HB5.out.size))
    have hx6 := (hb6.block _ (lt_row hx5)).trans hx5
    have hy6 := (hb6.block _ (lt_row hy5)).trans hy5
    have ha6 := (hb6.block _ (lt_row ha5)).trans ha5
    have hb6' := hr6
    clear hb6 hr6 hw6 hx5 hy5 ha5
    have hb6 := hb6'
    clear hb6'
    have HA := HIslA
    go_wp2_with fail
    refine Uniform.region_chain (S := (fun W => W.heap[w.heap.size]? = some (.cells #[.string r, .string s, .int .u8 k, .string ky, .string b, .int .i64 n] 36 (0, 0)) ∧ W.heap[w2.heap.size]? = some (.cells #[.string r, .string s, .int .u8 k, .string ky, .string B, .int .i64 n] 36 (0, 0)) ∧ W.heap[w3.heap.size]? = some (.cells (pB 32 lA) 38 (0, 0)) ∧ W.heap[w5.heap.size]? = some (.cells (pB 32 lA) 38 (0, 0)) ∧ VarsR W ∧ Below w.heap.size w W)) (List.range 54) (by kernel_rfl) (by kernel_rfl) ⟨hx6, hy6, ha6, hb6, (HV6.out).below (Bl.drew (Below.refl _ _)), (HB6.out).drew⟩ ?_
    refine ⟨_, ?_, rfl, Or.inl ⟨by rfl, fun wq hSw => Uniform.UStep.value (w' := wq) ?_ hSw⟩, ?_⟩
    rotate_left
    · obtain ⟨q0, q1, q2, q3, q4, q5⟩ := hSw
      obtain ⟨qc0, qf0⟩ := row_facts q0
      obtain ⟨qc1, qf1⟩ := row_facts q1
      go_simp
      rfl
    simp only [Act.put, List.getElem_toArray, List.getElem_cons_zero, List.getElem_cons_succ, List.setIfInBounds_toArray, List.set_cons_zero, List.set_cons_succ]
    refine ⟨_, ?_, rfl, Or.inl ⟨by rfl, fun wq hSw => Uniform.UStep.call (w' := wq) ?_ ((H5.out wq hSw.2.2.2.2.1).mono ?_)⟩, ?_⟩
    rotate_left
    · obtain ⟨q0, q1, q2, q3, q4, q5⟩ := hSw
      obtain ⟨qc0, qf0⟩ := row_facts q0
      obtain ⟨qc1, qf1⟩ := row_facts q1
      go_simp
      first | done | rfl | exact ⟨⟨rfl, rfl⟩, rfl⟩ | exact ⟨rfl, rfl⟩
    · have hSk := hSw
      obtain ⟨q0, q1, q2, q3, q4, q5⟩ := hSw
      rintro e wq2 ⟨rfl, hbq⟩
      refine ⟨?_, (hbq.block _ (lt_row q0)).trans q0, (hbq.block _ (lt_row q1)).trans q1, (hbq.block _ (lt_row q2)).trans q2, (hbq.block _ (lt_row q3)).trans q3, q4.below hbq, q5.trans (hbq.mono q5.size)⟩
      rfl
    simp only [Act.put, List.getElem_toArray, List.getElem_cons_zero, List.getElem_cons_succ, List.setIfInBounds_toArray, List.set_cons_zero, List.set_cons_succ]
    refine ⟨_, ?_, rfl, Or.inl ⟨by rfl, fun wq hSw => Uniform.UStep.value (w' := wq) ?_ hSw⟩, ?_⟩
    rotate_left
    · obtain ⟨q0, q1, q2, q3, q4, q5⟩ := hSw
      obtain ⟨qc0, qf0⟩ := row_facts q0
      obtain ⟨qc1, qf1⟩ := row_facts q1
      go_simp
      rfl
    simp only [Act.put, List.getElem_toArray, List.getElem_cons_zero, List.getElem_cons_succ, List.setIfInBounds_toArray, List.set_cons_zero, List.set_cons_succ]
    refine ⟨_, ?_, rfl, Or.inl ⟨by rfl, fun wq hSw => Uniform.UStep.value (w' := wq) ?_ hSw⟩, ?_⟩
    rotate_left
    · obtain ⟨q0, q1, q2, q3, q4, q5⟩ := hSw
      obtain ⟨qc0, qf0⟩ := row_facts q0
      obtain ⟨qc1, qf1⟩ := row_facts q1
      go_simp
      rfl
    simp only [Act.put, List.getElem_toArray, List.getElem_cons_zero, List.getElem_cons_succ, List.setIfInBounds_toArray, List.set_cons_zero, List.set_cons_succ]
    refine ⟨_, ?_, rfl, Or.inl ⟨by rfl, fun wq hSw => Uniform.UStep.value (w' := wq) ?_ hSw⟩, ?_⟩
    rotate_left
    · obtain ⟨q0, q1, q2, q3, q4, q5⟩ := hSw
      obtain ⟨qc0, qf0⟩ := row_facts q0
      obtain ⟨qc1, qf1⟩ := row_facts q1
      go_simp
      rfl
    simp only [Act.put, List.getElem_toArray, List.getElem_cons_zero, List.getElem_cons_succ, List.setIfInBounds_toArray, List.set_cons_zero, List.set_cons_succ]
    refine ⟨_, ?_, rfl, Or.inl ⟨by rfl, fun wq hSw => Uniform.UStep.value (w' := wq) ?_ hSw⟩, ?_⟩
    rotate_left
    · obtain ⟨q0, q1, q2, q3, q4, q5⟩ := hSw
      obtain ⟨qc0, qf0⟩ := row_facts q0
      obtain ⟨qc1, qf1⟩ := row_facts q1
      go_simp
      rfl
    simp only [Act.put, List.getElem_toArray, List.getElem_cons_zero, List.getElem_cons_succ, List.setIfInBounds_toArray, List.set_cons_zero, List.set_cons_succ]
    refine ⟨_, ?_, rfl, Or.inl ⟨by rfl, fun wq hSw => Uniform.UStep.value (w' := wq) ?_ hSw⟩, ?_⟩
    rotate_left
    · obtain ⟨q0, q1, q2, q3, q4, q5⟩ := hSw
      obtain ⟨qc0, qf0⟩ := row_facts q0
      obtain ⟨qc1, qf1⟩ := row_facts q1
      go_simp
      rfl
    simp only [Act.put, List.getElem_toArray, List.getElem_cons_zero, List.getElem_cons_succ, List.setIfInBounds_toArray, List.set_cons_zero, List.set_cons_succ]
    refine ⟨_, ?_, rfl, Or.inl ⟨by rfl, fun wq hSw => Uniform.UStep.value (w' := wq) ?_ hSw⟩, ?_⟩
    rotate_left
    · obtain ⟨q0, q1, q2, q3, q4, q5⟩ := hSw
      obtain ⟨qc0, qf0⟩ := row_facts q0
      obtain ⟨qc1, qf1⟩ := row_facts q1
      go_simp
      rfl
    simp only [Act.put, List.getElem_toArray, List.getElem_cons_zero, List.getElem_cons_succ, List.setIfInBounds_toArray, List.set_cons_zero, List.set_cons_succ]
    refine ⟨_, ?_, rfl, Or.inl ⟨by rfl, fun wq hSw => Uniform.UStep.value (w' := wq) ?_ hSw⟩, ?_⟩
    rotate_left
    · obtain ⟨q0, q1, q2, q3, q4, q5⟩ := hSw
      obtain ⟨qc0, qf0⟩ := row_facts q0
      obtain ⟨qc1, qf1⟩ := row_facts q1
      go_simp
      rfl
    simp only [Act.put, List.getElem_toArray, List.getElem_cons_zero, List.getElem_cons_succ, List.setIfInBounds_toArray, List.set_cons_zero, List.set_cons_succ]
    refine ⟨_, _, rfl, Or.inl ⟨by rfl, fun wq hSw => Uniform.UStep.value (w' := wq) (EqHash.exec_load_row 38 _ rfl _ rfl hSw.2.2.1 Tryd.underlying38 rfl HA.out) hSw⟩, ?_⟩
    simp only [Act.put, List.getElem_toArray, List.getElem_cons_zero, List.getElem_cons_succ, List.setIfInBounds_toArray, List.set_cons_zero, List.set_cons_succ]
    refine ⟨_, _, rfl, Or.inl ⟨by rfl, fun wq hSw => Uniform.UStep.value (w' := wq) (EqHash.exec_load_row 38 _ rfl _ rfl hSw.2.2.2.1 Tryd.underlying38 rfl HA.out) hSw⟩, ?_⟩
    simp only [Act.put, List.getElem_toArray, List.getElem_cons_zero, List.getElem_cons_succ, List.setIfInBounds_toArray, List.set_cons_zero, List.set_cons_succ]
    refine ⟨_, ?_, rfl, Or.inl ⟨by rfl, fun wq hSw => Uniform.UStep.value (w' := wq) ?_ hSw⟩, ?_⟩
    rotate_left
    · obtain ⟨q0, q1, q2, q3, q4, q5⟩ := hSw
      obtain ⟨qc0, qf0⟩ := row_facts q0
      obtain ⟨qc1, qf1⟩ := row_facts q1
      go_simp
      rfl
    simp only [Act.put, List.getElem_toArray, List.getElem_cons_zero, List.getElem_cons_succ, List.setIfInBounds_toArray, List.set_cons_zero, List.set_cons_succ]
    refine ⟨_, ?_, rfl, Or.inl ⟨by rfl, fun wq hSw => Uniform.UStep.value (w' := wq) ?_ hSw⟩, ?_⟩
    rotate_left
    · obtain ⟨q0, q1, q2, q3, q4, q5⟩ := hSw
      obtain ⟨qc0, qf0⟩ := row_facts q0
      obtain ⟨qc1, qf1⟩ := row_facts q1
      go_simp
      rfl
    simp only [Act.put, List.getElem_toArray, List.getElem_cons_zero, List.getElem_cons_succ, List.setIfInBounds_toArray, List.set_cons_zero, List.set_cons_succ]
    refine ⟨_, ?_, rfl, Or.inl ⟨by rfl, fun wq hSw => Uniform.UStep.value (w' := wq) ?_ hSw⟩, ?_⟩
    rotate_left
    · obtain ⟨q0, q1, q2, q3, q4, q5⟩ := hSw
      obtain ⟨qc0, qf0⟩ := row_facts q0
      obtain ⟨qc1, qf1⟩ := row_facts q1
      go_simp
      rfl
    simp only [Act.put, List.getElem_toArray, List.getElem_cons_zero, List.getElem_cons_succ, List.setIfInBounds_toArray, List.set_cons_zero, List.set_cons_succ]
    refine ⟨_, ?_, rfl, Or.inl ⟨by rfl, fun wq hSw => Uniform.UStep.value (w' := wq) ?_ hSw⟩, ?_⟩
    rotate_left
    · obtain ⟨q0, q1, q2, q3, q4, q5⟩ := hSw
      obtain ⟨qc0, qf0⟩ := row_facts q0
      obtain ⟨qc1, qf1⟩ := row_facts q1
      go_simp
      rfl
    simp only [Act.put, List.getElem_toArray, List.getElem_cons_zero, List.getElem_cons_succ, List.setIfInBounds_toArray, List.set_cons_zero, List.set_cons_succ]
    refine ⟨_, ?_, rfl, Or.inl ⟨by rfl, fun wq hSw => Uniform.UStep.call (w' := wq) ?_ ((H6.out wq hSw.2.2.2.2.1).mono ?_)⟩, ?_⟩
    rotate_left
    · obtain ⟨q0, q1, q2, q3, q4, q5⟩ := hSw
      obtain ⟨qc0, qf0⟩ := row_facts q0
      obtain ⟨qc1, qf1⟩ := row_facts q1
      go_simp
      first | done | rfl | exact ⟨⟨rfl, rfl⟩, rfl⟩ | exact ⟨rfl, rfl⟩
    · have hSk := hSw
      obtain ⟨q0, q1, q2, q3, q4, q5⟩ := hSw
      rintro e wq2 ⟨rfl, hbq⟩
      refine ⟨?_, (hbq.block _ (lt_row q0)).trans q0, (hbq.block _ (lt_row q1)).trans q1, (hbq.block _ (lt_row q2)).trans q2, (hbq.block _ (lt_row q3)).trans q3, q4.below hbq, q5.trans (hbq.mono q5.size)⟩
      rfl
    simp only [Act.put, List.getElem_toArray, List.getElem_cons_zero, List.getElem_cons_succ, List.setIfInBounds_toArray, List.set_cons_zero, List.set_cons_succ]
    refine ⟨_, ?_, rfl, Or.inl ⟨by rfl, fun wq hSw => Uniform.UStep.value (w' := wq) ?_ hSw⟩, ?_⟩
    rotate_left
    · obtain ⟨q0, q1, q2, q3, q4, q5⟩ := hSw
      obtain ⟨qc0, qf0⟩ := row_facts q0
      obtain ⟨qc1, qf1⟩ := row_facts q1
      go_simp
      rfl
    simp only [Act.put, List.getElem_toArray, List.getElem_cons_zero, List.getElem_cons_succ, List.setIfInBounds_toArray, List.set_cons_zero, List.set_cons_succ]
    refine ⟨_, ?_, rfl, Or.inl ⟨by rfl, fun wq hSw => Uniform.UStep.value (w' := wq) ?_ hSw⟩, ?_⟩
    rotate_left
    · obtain ⟨q0, q1, q2, q3, q4, q5⟩ := hSw
      obtain ⟨qc0, qf0⟩ := row_facts q0
      obtain ⟨qc1, qf1⟩ := row_facts q1
      go_simp
      rfl
    simp only [Act.put, List.getElem_toArray, List.getElem_cons_zero, List.getElem_cons_succ, List.setIfInBounds_toArray, List.set_cons_zero, List.set_cons_succ]
    refine ⟨_, ?_, rfl, Or.inl ⟨by rfl, fun wq hSw => Uniform.UStep.value (w' := wq) ?_ hSw⟩, ?_⟩
    rotate_left
    · obtain ⟨q0, q1, q2, q3, q4, q5⟩ := hSw
      obtain ⟨qc0, qf0⟩ := row_facts q0
      obtain ⟨qc1, qf1⟩ := row_facts q1
      go_simp
      rfl
    simp only [Act.put, List.getElem_toArray, List.getElem_cons_zero, List.getElem_cons_succ, List.setIfInBounds_toArray, List.set_cons_zero, List.set_cons_succ]
    refine ⟨_, ?_, rfl, Or.inl ⟨by rfl, fun wq hSw => Uniform.UStep.value (w' := wq) ?_ hSw⟩, ?_⟩
    rotate_left
    · obtain ⟨q0, q1, q2, q3, q4, q5⟩ := hSw
      obtain ⟨qc0, qf0⟩ := row_facts q0
      obtain ⟨qc1, qf1⟩ := row_facts q1
      go_simp
      rfl
    simp only [Act.put, List.getElem_toArray, List.getElem_cons_zero, List.getElem_cons_succ, List.setIfInBounds_toArray, List.set_cons_zero, List.set_cons_succ]
    refine ⟨_, ?_, rfl, Or.inl ⟨by rfl, fun wq hSw => Uniform.UStep.value (w' := wq) ?_ hSw⟩, ?_⟩
    rotate_left
    · obtain ⟨q0, q1, q2, q3, q4, q5⟩ := hSw
      obtain ⟨qc0, qf0⟩ := row_facts q0
      obtain ⟨qc1, qf1⟩ := row_facts q1
      go_simp
      rfl
    simp only [Act.put, List.getElem_toArray, List.getElem_cons_zero, List.getElem_cons_succ, List.setIfInBounds_toArray, List.set_cons_zero, List.set_cons_succ]
    refine ⟨_, ?_, rfl, Or.inl ⟨by rfl, fun wq hSw => Uniform.UStep.value (w' := wq) ?_ hSw⟩, ?_⟩
    rotate_left
    · obtain ⟨q0, q1, q2, q3, q4, q5⟩ := hSw
      obtain ⟨qc0, qf0⟩ := row_facts q0
      obtain ⟨qc1, qf1⟩ := row_facts q1
      go_simp
      rfl
    simp only [Act.put, List.getElem_toArray, List.getElem_cons_zero, List.getElem_cons_succ, List.setIfInBounds_toArray, List.set_cons_zero, List.set_cons_succ]
    refine ⟨_, ?_, rfl, Or.inl ⟨by rfl, fun wq hSw => Uniform.UStep.value (w' := wq) ?_ hSw⟩, ?_⟩
    rotate_left
    · obtain ⟨q0, q1, q2, q3, q4, q5⟩ := hSw
      obtain ⟨qc0, qf0⟩ := row_facts q0
      obtain ⟨qc1, qf1⟩ := row_facts q1
      go_simp
      rfl
    simp only [Act.put, List.getElem_toArray, List.getElem_cons_zero, List.getElem_cons_succ, List.setIfInBounds_toArray, List.set_cons_zero, List.set_cons_succ]
    refine ⟨_, ?_, rfl, Or.inl ⟨by rfl, fun wq hSw => Uniform.UStep.value (w' := wq) ?_ hSw⟩, ?_⟩
    rotate_left
    · obtain ⟨q0, q1, q2, q3, q4, q5⟩ := hSw
      obtain ⟨qc0, qf0⟩ := row_facts q0
      obtain ⟨qc1, qf1⟩ := row_facts q1
      go_simp
      rfl
    simp only [Act.put, List.getElem_toArray, List.getElem_cons_zero, List.getElem_cons_succ, List.setIfInBounds_toArray, List.set_cons_zero, List.set_cons_succ]
    refine ⟨_, ?_, rfl, Or.inl ⟨by rfl, fun wq hSw => Uniform.UStep.value (w' := wq) ?_ hSw⟩, ?_⟩
    rotate_left
    · obtain ⟨q0, q1, q2, q3, q4, q5⟩ := hSw
      obtain ⟨qc0, qf0⟩ := row_facts q0
      obtain ⟨qc1, qf1⟩ := row_facts q1
      go_simp
      rfl
    simp only [Act.put, List.getElem_toArray, List.getElem_cons_zero, List.getElem_cons_succ, List.setIfInBounds_toArray, List.set_cons_zero, List.set_cons_succ]
    refine ⟨_, ?_, rfl, Or.inl ⟨by rfl, fun wq hSw => Uniform.UStep.value (w' := wq) ?_ hSw⟩, ?_⟩
    rotate_left
    · obtain ⟨q0, q1, q2, q3, q4, q5⟩ := hSw
      obtain ⟨qc0, qf0⟩ := row_facts q0
      obtain ⟨qc1, qf1⟩ := row_facts q1
      go_simp
      rfl
    simp only [Act.put, List.getElem_toArray, List.getElem_cons_zero, List.getElem_cons_succ, List.setIfInBounds_toArray, List.set_cons_zero, List.set_cons_succ]
    refine ⟨_, ?_, rfl, Or.inl ⟨by rfl, fun wq hSw => Uniform.UStep.value (w' := wq) ?_ hSw⟩, ?_⟩
    rotate_left
    · obtain ⟨q0, q1, q2, q3, q4, q5⟩ := hSw
      obtain ⟨qc0, qf0⟩ := row_facts q0
      obtain ⟨qc1, qf1⟩ := row_facts q1
      go_simp
      rfl
    simp only [Act.put, List.getElem_toArray, List.getElem_cons_zero, List.getElem_cons_succ, List.setIfInBounds_toArray, List.set_cons_zero, List.set_cons_succ]
    refine ⟨_, ?_, rfl, Or.inl ⟨by rfl, fun wq hSw => Uniform.UStep.value (w' := wq) ?_ hSw⟩, ?_⟩
    rotate_left
    · obtain ⟨q0, q1, q2, q3, q4, q5⟩ := hSw
      obtain ⟨qc0, qf0⟩ := row_facts q0
      obtain ⟨qc1, qf1⟩ := row_facts q1
      go_simp
      rfl
    simp only [Act.put, List.getElem_toArray, List.getElem_cons_zero, List.getElem_cons_succ, List.setIfInBounds_toArray, List.set_cons_zero, List.set_cons_succ]
    refine ⟨_, ?_, rfl, Or.inl ⟨by rfl, fun wq hSw => Uniform.UStep.value (w' := wq) ?_ hSw⟩, ?_⟩
    rotate_left
    · obtain ⟨q0, q1, q2, q3, q4, q5⟩ := hSw
      obtain ⟨qc0, qf0⟩ := row_facts q0
      obtain ⟨qc1, qf1⟩ := row_facts q1
      go_simp
      rfl
    simp only [Act.put, List.getElem_toArray, List.getElem_cons_zero, List.getElem_cons_succ, List.setIfInBounds_toArray, List.set_cons_zero, List.set_cons_succ]
    refine ⟨_, ?_, rfl, Or.inl ⟨by rfl, fun wq hSw => Uniform.UStep.value (w' := wq) ?_ hSw⟩, ?_⟩
    rotate_left
    · obtain ⟨q0, q1, q2, q3, q4, q5⟩ := hSw
      obtain ⟨qc0, qf0⟩ := row_facts q0
      obtain ⟨qc1, qf1⟩ := row_facts q1
      go_simp
      rfl
    simp only [Act.put, List.getElem_toArray, List.getElem_cons_zero, List.getElem_cons_succ, List.setIfInBounds_toArray, List.set_cons_zero, List.set_cons_succ]
    refine ⟨_, ?_, rfl, Or.inl ⟨by rfl, fun wq hSw => Uniform.UStep.value (w' := wq) ?_ hSw⟩, ?_⟩
    rotate_left
    · obtain ⟨q0, q1, q2, q3, q4, q5⟩ := hSw
      obtain ⟨qc0, qf0⟩ := row_facts q0
      obtain ⟨qc1, qf1⟩ := row_facts q1
      go_simp
      rfl
    simp only [Act.put, List.getElem_toArray, List.getElem_cons_zero, List.getElem_cons_succ, List.setIfInBounds_toArray, List.set_cons_zero, List.set_cons_succ]
    refine ⟨_, ?_, rfl, Or.inl ⟨by rfl, fun wq hSw => Uniform.UStep.value (w' := wq) ?_ hSw⟩, ?_⟩
    rotate_left
    · obtain ⟨q0, q1, q2, q3, q4, q5⟩ := hSw
      obtain ⟨qc0, qf0⟩ := row_facts q0
      obtain ⟨qc1, qf1⟩ := row_facts q1
      go_simp
      rfl
    simp only [Act.put, List.getElem_toArray, List.getElem_cons_zero, List.getElem_cons_succ, List.setIfInBounds_toArray, List.set_cons_zero, List.set_cons_succ]
    refine ⟨_, ?_, rfl, Or.inl ⟨by rfl, fun wq hSw => Uniform.UStep.value (w' := wq) ?_ hSw⟩, ?_⟩
    rotate_left
    · obtain ⟨q0, q1, q2, q3, q4, q5⟩ := hSw
      obtain ⟨qc0, qf0⟩ := row_facts q0
      obtain ⟨qc1, qf1⟩ := row_facts q1
      go_simp
      rfl
    simp only [Act.put, List.getElem_toArray, List.getElem_cons_zero, List.getElem_cons_succ, List.setIfInBounds_toArray, List.set_cons_zero, List.set_cons_succ]
    refine ⟨_, ?_, rfl, Or.inl ⟨by rfl, fun wq hSw => Uniform.UStep.value (w' := wq) ?_ hSw⟩, ?_⟩
    rotate_left
    · obtain ⟨q0, q1, q2, q3, q4, q5⟩ := hSw
      obtain ⟨qc0, qf0⟩ := row_facts q0
      obtain ⟨qc1, qf1⟩ := row_facts q1
      go_simp
      rfl
    simp only [Act.put, List.getElem_toArray, List.getElem_cons_zero, List.getElem_cons_succ, List.setIfInBounds_toArray, List.set_cons_zero, List.set_cons_succ]
    refine ⟨_, ?_, rfl, Or.inl ⟨by rfl, fun wq hSw => Uniform.UStep.value (w' := wq) ?_ hSw⟩, ?_⟩
    rotate_left
    · obtain ⟨q0, q1, q2, q3, q4, q5⟩ := hSw
      obtain ⟨qc0, qf0⟩ := row_facts q0
      obtain ⟨qc1, qf1⟩ := row_facts q1
      go_simp
      rfl
    simp only [Act.put, List.getElem_toArray, List.getElem_cons_zero, List.getElem_cons_succ, List.setIfInBounds_toArray, List.set_cons_zero, List.set_cons_succ]
    refine ⟨_, ?_, rfl, Or.inl ⟨by rfl, fun wq hSw => Uniform.UStep.value (w' := wq) ?_ hSw⟩, ?_⟩
    rotate_left
    · obtain ⟨q0, q1, q2, q3, q4, q5⟩ := hSw
      obtain ⟨qc0, qf0⟩ := row_facts q0
      obtain ⟨qc1, qf1⟩ := row_facts q1
      go_simp
      rfl
    simp only [Act.put, List.getElem_toArray, List.getElem_cons_zero, List.getElem_cons_succ, List.setIfInBounds_toArray, List.set_cons_zero, List.set_cons_succ]
    refine ⟨_, ?_, rfl, Or.inl ⟨by rfl, fun wq hSw => Uniform.UStep.value (w' := wq) ?_ hSw⟩, ?_⟩
    rotate_left
    · obtain ⟨q0, q1, q2, q3, q4, q5⟩ := hSw
      obtain ⟨qc0, qf0⟩ := row_facts q0
      obtain ⟨qc1, qf1⟩ := row_facts q1
      go_simp
      rfl
    simp only [Act.put, List.getElem_toArray, List.getElem_cons_zero, List.getElem_cons_succ, List.setIfInBounds_toArray, List.set_cons_zero, List.set_cons_succ]
    refine ⟨_, ?_, rfl, Or.inl ⟨by rfl, fun wq hSw => Uniform.UStep.value (w' := wq) ?_ hSw⟩, ?_⟩
    rotate_left
    · obtain ⟨q0, q1, q2, q3, q4, q5⟩ := hSw
      obtain ⟨qc0, qf0⟩ := row_facts q0
      obtain ⟨qc1, qf1⟩ := row_facts q1
      go_simp
      rfl
    simp only [Act.put, List.getElem_toArray, List.getElem_cons_zero, List.getElem_cons_succ, List.setIfInBounds_toArray, List.set_cons_zero, List.set_cons_succ]
    refine ⟨_, ?_, rfl, Or.inl ⟨by rfl, fun wq hSw => Uniform.UStep.value (w' := wq) ?_ hSw⟩, ?_⟩
    rotate_left
    · obtain ⟨q0, q1, q2, q3, q4, q5⟩ := hSw
      obtain ⟨qc0, qf0⟩ := row_facts q0
      obtain ⟨qc1, qf1⟩ := row_facts q1
      go_simp
      rfl
    simp only [Act.put, List.getElem_toArray, List.getElem_cons_zero, List.getElem_cons_succ, List.setIfInBounds_toArray, List.set_cons_zero, List.set_cons_succ]
    refine ⟨_, ?_, rfl, Or.inl ⟨by rfl, fun wq hSw => Uniform.UStep.value (w' := wq) ?_ hSw⟩, ?_⟩
    rotate_left
    · obtain ⟨q0, q1, q2, q3, q4, q5⟩ := hSw
      obtain ⟨qc0, qf0⟩ := row_facts q0
      obtain ⟨qc1, qf1⟩ := row_facts q1
      go_simp
      rfl
    simp only [Act.put, List.getElem_toArray, List.getElem_cons_zero, List.getElem_cons_succ, List.setIfInBounds_toArray, List.set_cons_zero, List.set_cons_succ]
    refine ⟨_, ?_, rfl, Or.inl ⟨by rfl, fun wq hSw => Uniform.UStep.value (w' := wq) ?_ hSw⟩, ?_⟩
    rotate_left
    · obtain ⟨q0, q1, q2, q3, q4, q5⟩ := hSw
      obtain ⟨qc0, qf0⟩ := row_facts q0
      obtain ⟨qc1, qf1⟩ := row_facts q1
      go_simp
      rfl
    simp only [Act.put, List.getElem_toArray, List.getElem_cons_zero, List.getElem_cons_succ, List.setIfInBounds_toArray, List.set_cons_zero, List.set_cons_succ]
    refine ⟨_, ?_, rfl, Or.inl ⟨by rfl, fun wq hSw => Uniform.UStep.value (w' := wq) ?_ hSw⟩, ?_⟩
    rotate_left
    · obtain ⟨q0, q1, q2, q3, q4, q5⟩ := hSw
      obtain ⟨qc0, qf0⟩ := row_facts q0
      obtain ⟨qc1, qf1⟩ := row_facts q1
      go_simp
      rfl
    simp only [Act.put, List.getElem_toArray, List.getElem_cons_zero, List.getElem_cons_succ, List.setIfInBounds_toArray, List.set_cons_zero, List.set_cons_succ]
    refine ⟨_, ?_, rfl, Or.inl ⟨by rfl, fun wq hSw => Uniform.UStep.value (w' := wq) ?_ hSw⟩, ?_⟩
    rotate_left
    · obtain ⟨q0, q1, q2, q3, q4, q5⟩ := hSw
      obtain ⟨qc0, qf0⟩ := row_facts q0
      obtain ⟨qc1, qf1⟩ := row_facts q1
      go_simp
      rfl
    simp only [Act.put, List.getElem_toArray, List.getElem_cons_zero, List.getElem_cons_succ, List.setIfInBounds_toArray, List.set_cons_zero, List.set_cons_succ]
    refine ⟨_, ?_, rfl, Or.inl ⟨by rfl, fun wq hSw => Uniform.UStep.value (w' := wq) ?_ hSw⟩, ?_⟩
    rotate_left
    · obtain ⟨q0, q1, q2, q3, q4, q5⟩ := hSw
      obtain ⟨qc0, qf0⟩ := row_facts q0
      obtain ⟨qc1, qf1⟩ := row_facts q1
      go_simp
      rfl
    simp only [Act.put, List.getElem_toArray, List.getElem_cons_zero, List.getElem_cons_succ, List.setIfInBounds_toArray, List.set_cons_zero, List.set_cons_succ]
    refine ⟨_, ?_, rfl, Or.inl ⟨by rfl, fun wq hSw => Uniform.UStep.value (w' := wq) ?_ hSw⟩, ?_⟩
    rotate_left
    · obtain ⟨q0, q1, q2, q3, q4, q5⟩ := hSw
      obtain ⟨qc0, qf0⟩ := row_facts q0
      obtain ⟨qc1, qf1⟩ := row_facts q1
      go_simp
      rfl
    simp only [Act.put, List.getElem_toArray, List.getElem_cons_zero, List.getElem_cons_succ, List.setIfInBounds_toArray, List.set_cons_zero, List.set_cons_succ]
    refine ⟨_, ?_, rfl, Or.inl ⟨by rfl, fun wq hSw => Uniform.UStep.value (w' := wq) ?_ hSw⟩, ?_⟩
    rotate_left
    · obtain ⟨q0, q1, q2, q3, q4, q5⟩ := hSw
      obtain ⟨qc0, qf0⟩ := row_facts q0
      obtain ⟨qc1, qf1⟩ := row_facts q1
      go_simp
      rfl
    simp only [Act.put, List.getElem_toArray, List.getElem_cons_zero, List.getElem_cons_succ, List.setIfInBounds_toArray, List.set_cons_zero, List.set_cons_succ]
    refine ⟨_, ?_, rfl, Or.inl ⟨by rfl, fun wq hSw => Uniform.UStep.value (w' := wq) ?_ hSw⟩, ?_⟩
    rotate_left
    · obtain ⟨q0, q1, q2, q3, q4, q5⟩ := hSw
      obtain ⟨qc0, qf0⟩ := row_facts q0
      obtain ⟨qc1, qf1⟩ := row_facts q1
      go_simp
      rfl
    simp only [Act.put, List.getElem_toArray, List.getElem_cons_zero, List.getElem_cons_succ, List.setIfInBounds_toArray, List.set_cons_zero, List.set_cons_succ]
    refine ⟨_, ?_, rfl, Or.inl ⟨by rfl, fun wq hSw => Uniform.UStep.value (w' := wq) ?_ hSw⟩, ?_⟩
    rotate_left
    · obtain ⟨q0, q1, q2, q3, q4, q5⟩ := hSw
      obtain ⟨qc0, qf0⟩ := row_facts q0
      obtain ⟨qc1, qf1⟩ := row_facts q1
      go_simp
      rfl
    simp only [Act.put, List.getElem_toArray, List.getElem_cons_zero, List.getElem_cons_succ, List.setIfInBounds_toArray, List.set_cons_zero, List.set_cons_succ]
    refine ⟨_, ?_, rfl, Or.inl ⟨by rfl, fun wq hSw => Uniform.UStep.value (w' := wq) ?_ hSw⟩, ?_⟩
    rotate_left
    · obtain ⟨q0, q1, q2, q3, q4, q5⟩ := hSw
      obtain ⟨qc0, qf0⟩ := row_facts q0
      obtain ⟨qc1, qf1⟩ := row_facts q1
      go_simp
      rfl
    simp only [Act.put, List.getElem_toArray, List.getElem_cons_zero, List.getElem_cons_succ, List.setIfInBounds_toArray, List.set_cons_zero, List.set_cons_succ]
    refine ⟨_, ?_, rfl, Or.inl ⟨by rfl, fun wq hSw => Uniform.UStep.value (w' := wq) ?_ hSw⟩, ?_⟩
    rotate_left
    · obtain ⟨q0, q1, q2, q3, q4, q5⟩ := hSw
      obtain ⟨qc0, qf0⟩ := row_facts q0
      obtain ⟨qc1, qf1⟩ := row_facts q1
      go_simp
      rfl
    simp only [Act.put, List.getElem_toArray, List.getElem_cons_zero, List.getElem_cons_succ, List.setIfInBounds_toArray, List.set_cons_zero, List.set_cons_succ]
    refine ⟨_, ?_, rfl, Or.inl ⟨by rfl, fun wq hSw => Uniform.UStep.value (w' := wq) ?_ hSw⟩, ?_⟩
    rotate_left
    · obtain ⟨q0, q1, q2, q3, q4, q5⟩ := hSw
      obtain ⟨qc0, qf0⟩ := row_facts q0
      obtain ⟨qc1, qf1⟩ := row_facts q1
      go_simp
      rfl
    simp only [Act.put, List.getElem_toArray, List.getElem_cons_zero, List.getElem_cons_succ, List.setIfInBounds_toArray, List.set_cons_zero, List.set_cons_succ]
    refine ⟨_, ?_, rfl, Or.inl ⟨by rfl, fun wq hSw => Uniform.UStep.value (w' := wq) ?_ hSw⟩, ?_⟩
    rotate_left
    · obtain ⟨q0, q1, q2, q3, q4, q5⟩ := hSw
      obtain ⟨qc0, qf0⟩ := row_facts q0
      obtain ⟨qc1, qf1⟩ := row_facts q1
      go_simp
      rfl
    simp only [Act.put, List.getElem_toArray, List.getElem_cons_zero, List.getElem_cons_succ, List.setIfInBounds_toArray, List.set_cons_zero, List.set_cons_succ]
    refine ⟨_, ?_, rfl, Or.inl ⟨by rfl, fun wq hSw => Uniform.UStep.value (w' := wq) ?_ hSw⟩, ?_⟩
    rotate_left
    · obtain ⟨q0, q1, q2, q3, q4, q5⟩ := hSw
      obtain ⟨qc0, qf0⟩ := row_facts q0
      obtain ⟨qc1, qf1⟩ := row_facts q1
      go_simp
      rfl
    simp only [Act.put, List.getElem_toArray, List.getElem_cons_zero, List.getElem_cons_succ, List.setIfInBounds_toArray, List.set_cons_zero, List.set_cons_succ]
    refine ⟨_, ?_, rfl, Or.inl ⟨by rfl, fun wq hSw => Uniform.UStep.value (w' := wq) ?_ hSw⟩, ?_⟩
    rotate_left
    · obtain ⟨q0, q1, q2, q3, q4, q5⟩ := hSw
      obtain ⟨qc0, qf0⟩ := row_facts q0
      obtain ⟨qc1, qf1⟩ := row_facts q1
      go_simp
      rfl
    simp only [Act.put, List.getElem_toArray, List.getElem_cons_zero, List.getElem_cons_succ, List.setIfInBounds_toArray, List.set_cons_zero, List.set_cons_succ]
    intro w9 hS9
    obtain ⟨_, _, _, _, _, q5⟩ := hS9
    go_wp2
    go_ret
    exact ⟨rfl, q5⟩

end Go.Proofs.YtfodloepkgkilaaDoor.RedStableW
