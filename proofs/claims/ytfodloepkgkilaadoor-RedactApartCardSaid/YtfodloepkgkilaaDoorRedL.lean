/-
  WHAT IS PROVED: the statements' own check of what is left of events answers true. Condition: the variables hold what 'VarsR' says.
-/
import Derived.Test.YtfodloepkgkilaaDoorRed
import Derived.Test.YtfodloepkgkilaaDoorEqHash
import Derived.Test.YtfodloepkgkilaaDoorCore
namespace Go.Proofs.YtfodloepkgkilaaDoor.RedL
open Go Go.RowKit Go.Proofs.YtfodloepkgkilaaDoor Go.Proofs.YtfodloepkgkilaaDoor.OctetS Go.Proofs.YtfodloepkgkilaaDoor.IdentS Go.Proofs.YtfodloepkgkilaaDoor.EventS Go.Proofs.YtfodloepkgkilaaDoor.OctP Go.Proofs.YtfodloepkgkilaaDoor.IdentP Go.Proofs.YtfodloepkgkilaaDoor.EventP Go.Proofs.YtfodloepkgkilaaDoor.EventC Go.Proofs.YtfodloepkgkilaaDoor.EventB Go.Proofs.YtfodloepkgkilaaDoor.EventR Go.Proofs.YtfodloepkgkilaaDoor.LivesE Go.Proofs.YtfodloepkgkilaaDoor.ShaB Go.Proofs.YtfodloepkgkilaaDoor.ShaA Go.Proofs.YtfodloepkgkilaaDoor.Steps Go.Proofs.YtfodloepkgkilaaDoor.RedactS Go.Proofs.YtfodloepkgkilaaDoor.RedA Go.Proofs.YtfodloepkgkilaaDoor.RedB Go.Proofs.YtfodloepkgkilaaDoor.EqHash
set_option linter.unusedVariables false
set_option linter.unusedSimpArgs false
attribute [local go_sem] EqEvent.eqEvent eqHash
attribute [-go_sem] run_equalIn_agg

/-- A block that was made, and written whole. -/
theorem row_new {w w' : World} {old cs : Array Value} {t : TypeId} (h : Hid (w' = (w.alloc (.cells old t)).setRow w.heap.size cs)) : Below w.heap.size w w' ∧ w'.heap[w.heap.size]? = some (.cells cs t (0, 0)) := by
  rw [h.out]
  exact ⟨below_row ((Below.refl _ w).alloc (Nat.le_refl _) _) (Nat.le_refl _) _, setRow_at (heap_new _ _)⟩

def ev1 : Ev := redact ev0
theorem right1 : Right ev1 := right_redact right0
theorem apart0 : hEq (refSum ev0) (allSum ev0) = false := by decide +kernel
theorem zero0 : checkB (evOf ⟨#[]⟩ ⟨#[]⟩ 0 ⟨#[]⟩ ⟨#[]⟩ 0) = false := by decide +kernel

theorem l1 (w : World) : Calls Tryd.prog 27 #[.agg #[.string ⟨#[33, 104, 97, 108, 108, 58, 48]⟩, .string ⟨#[64, 97, 110, 110, 58, 48]⟩, .int .u8 6, .string ⟨#[]⟩, .string ⟨#[104, 105]⟩, .int .i64 7]] w (RB (.agg #[.string ⟨#[33, 104, 97, 108, 108, 58, 48]⟩, .string ⟨#[64, 97, 110, 110, 58, 48]⟩, .int .u8 6, .string ⟨#[]⟩, .string ⟨#[]⟩, .int .i64 7]) w) := Redact_ok w _ _ 6 _ _ 7
theorem l2 (w : World) (hv : VarsR w) : Calls Tryd.prog 22 #[.agg #[.string ⟨#[33, 104, 97, 108, 108, 58, 48]⟩, .string ⟨#[64, 97, 110, 110, 58, 48]⟩, .int .u8 6, .string ⟨#[]⟩, .string ⟨#[104, 105]⟩, .int .i64 7]] w (RB (.tuple #[.agg (pB 32 (refSum ev0)), .int .i64 0]) w) := by
  have h := Ref_ok w ⟨#[33, 104, 97, 108, 108, 58, 48]⟩ ⟨#[64, 97, 110, 110, 58, 48]⟩ 6 ⟨#[]⟩ ⟨#[104, 105]⟩ 7 hv (by decide) (by decide) (by decide) (by decide)
  have e : evOf ⟨#[33, 104, 97, 108, 108, 58, 48]⟩ ⟨#[64, 97, 110, 110, 58, 48]⟩ 6 ⟨#[]⟩ ⟨#[104, 105]⟩ 7 = ev0 := rfl
  rw [e] at h
  unfold refV at h
  rw [check_iff.2 right0, if_pos rfl] at h
  exact h
theorem l3 (w : World) (hv : VarsR w) : Calls Tryd.prog 24 #[.agg #[.string ⟨#[33, 104, 97, 108, 108, 58, 48]⟩, .string ⟨#[64, 97, 110, 110, 58, 48]⟩, .int .u8 6, .string ⟨#[]⟩, .string ⟨#[104, 105]⟩, .int .i64 7]] w (RB (.tuple #[.agg (pB 32 (allSum ev0)), .int .i64 0]) w) := by
  have h := Content_ok w ⟨#[33, 104, 97, 108, 108, 58, 48]⟩ ⟨#[64, 97, 110, 110, 58, 48]⟩ 6 ⟨#[]⟩ ⟨#[104, 105]⟩ 7 hv (by decide) (by decide) (by decide) (by decide)
  have e : evOf ⟨#[33, 104, 97, 108, 108, 58, 48]⟩ ⟨#[64, 97, 110, 110, 58, 48]⟩ 6 ⟨#[]⟩ ⟨#[104, 105]⟩ 7 = ev0 := rfl
  rw [e] at h
  unfold allV at h
  rw [check_iff.2 right0, if_pos rfl] at h
  exact h
theorem l4 (w : World) (hv : VarsR w) : Calls Tryd.prog 33 #[.agg #[.string ⟨#[33, 104, 97, 108, 108, 58, 48]⟩, .string ⟨#[64, 97, 110, 110, 58, 48]⟩, .int .u8 6, .string ⟨#[]⟩, .string ⟨#[]⟩, .int .i64 7]] w (RB (.tuple #[.string (bsOf (EventS.bytes ev1)), .int .i64 0]) w) := by
  have h := Bytes_ok w ⟨#[33, 104, 97, 108, 108, 58, 48]⟩ ⟨#[64, 97, 110, 110, 58, 48]⟩ 6 ⟨#[]⟩ ⟨#[]⟩ 7 hv.e (by decide) (by decide) (by decide) (by decide)
  have e : evOf ⟨#[33, 104, 97, 108, 108, 58, 48]⟩ ⟨#[64, 97, 110, 110, 58, 48]⟩ 6 ⟨#[]⟩ ⟨#[]⟩ 7 = ev1 := evOf_redact _ _ 6 _ ⟨#[104, 105]⟩ 7
  rw [e] at h
  unfold bytesOf at h
  rw [check_iff.2 right1, if_pos rfl] at h
  exact h
theorem l5 (w : World) (hv : VarsR w) : Calls Tryd.prog 22 #[.agg #[.string ⟨#[]⟩, .string ⟨#[]⟩, .int .u8 0, .string ⟨#[]⟩, .string ⟨#[]⟩, .int .i64 0]] w (RB (.tuple #[.agg (pB 32 []), .int .i64 2]) w) := by
  have h := Ref_ok w ⟨#[]⟩ ⟨#[]⟩ 0 ⟨#[]⟩ ⟨#[]⟩ 0 hv (by decide) (by decide) (by decide) (by decide)
  unfold refV at h
  rw [zero0] at h
  exact h
theorem l6 (w : World) (hv : VarsR w) : Calls Tryd.prog 63 #[.string ((⟨#[6]⟩ : ByteArray) ++ bsOf (EventS.bytes ev1))] w (RB (.agg (pB 32 (refSum ev0))) w) := by
  have hl := right1.length
  have h := ShaM.Sum_ok w ((⟨#[6]⟩ : ByteArray) ++ bsOf (EventS.bytes ev1)) (by rw [ByteArray.size_append, size_bsOf, show (⟨#[6]⟩ : ByteArray).size = 1 from rfl]; omega) hv.h
  rw [← pB_full (n := 32) (ShaS.sum_length _), bl_append, bl_bsOf] at h
  rw [show refSum ev0 = ShaS.sum (bl ⟨#[6]⟩ ++ EventS.bytes ev1) from congrArg ShaS.sum rfl]
  exact h

set_option maxRecDepth 100000 in
set_option maxHeartbeats 4000000 in
theorem lives_ok (w : World) (hv : VarsR w) : Calls Tryd.prog 26 #[] w (RB (.bool true) w) := by
  obtain ⟨w0, hw0⟩ : ∃ w0, w0 = w.alloc (.cells #[.string ⟨#[33, 104, 97, 108, 108, 58, 48]⟩, .string ⟨#[64, 97, 110, 110, 58, 48]⟩, .int .u8 6, .string ⟨#[]⟩, .string ⟨#[104, 105]⟩, .int .i64 7] 36) := ⟨_, rfl⟩
  have hB0 : Below w.heap.size w w0 := by rw [hw0]; exact (Below.refl _ w).alloc (Nat.le_refl _) _
  have hx0 : w0.heap[w.heap.size]? = some (.cells #[.string ⟨#[33, 104, 97, 108, 108, 58, 48]⟩, .string ⟨#[64, 97, 110, 110, 58, 48]⟩, .int .u8 6, .string ⟨#[]⟩, .string ⟨#[104, 105]⟩, .int .i64 7] 36 (0, 0)) := by rw [hw0]; exact heap_new _ _
  have hl0 := lt_row hx0
  have HV0 := Lib.hid (hv.below hB0)
  have HB0 := Lib.hid hB0
  have Hw0 := Lib.hid hw0
  have h2 := l2
  have h3 := l3
  have h4 := l4
  have h6 := l6
  have hap := apart0
  have hla := refSum_length ev0
  have hlb := allSum_length ev0
  obtain ⟨lA, eA⟩ : ∃ l, l = refSum ev0 := ⟨_, rfl⟩
  obtain ⟨lB, eB⟩ : ∃ l, l = allSum ev0 := ⟨_, rfl⟩
  obtain ⟨T, eT⟩ : ∃ T, T = bsOf (EventS.bytes ev1) := ⟨_, rfl⟩
  have hT : T.size ≤ 700 := by rw [eT, size_bsOf]; have := right1.length; omega
  rw [← eA] at h2 h6 hap hla
  rw [← eB] at h3 hap hlb
  rw [← eT] at h4 h6
  have hself := hEq_self lA
  have hT2 : ¬ 9223372036854775807 < 1 + T.size := by omega
  have hi : (Tryd.prog.info? 38).map (·.size) = some 32 := by kernel_rfl
  have HIslA := Lib.hid (show (Tryd.prog.info? 38).map (·.size) = some (pB 32 lA).size by rw [pB_size (by omega)]; exact hi)
  have HIslB := Lib.hid (show (Tryd.prog.info? 38).map (·.size) = some (pB 32 lB).size by rw [pB_size (by omega)]; exact hi)
  have HLlA := Lib.hid (show lA.length ≤ 32 by omega)
  have HLlB := Lib.hid (show lB.length ≤ 32 by omega)
  obtain ⟨lZ, eZ⟩ : ∃ l : List UInt8, l = [] := ⟨_, rfl⟩
  have h5 : ∀ w, VarsR w → Calls Tryd.prog 22 #[.agg #[.string ⟨#[]⟩, .string ⟨#[]⟩, .int .u8 0, .string ⟨#[]⟩, .string ⟨#[]⟩, .int .i64 0]] w (RB (.tuple #[.agg (pB 32 lZ), .int .i64 2]) w) := by
    rw [eZ]
    exact l5
  have HIslZ := Lib.hid (show (Tryd.prog.info? 38).map (·.size) = some (pB 32 lZ).size by rw [pB_size (by rw [eZ]; simp)]; exact hi)
  have HLlZ := Lib.hid (show lZ.length ≤ 32 by rw [eZ]; simp)
  have HA := HIslA
  have HBs := HIslB
  have H2 := Lib.hid h2
  have H3 := Lib.hid h3
  have H4 := Lib.hid h4
  have H5 := Lib.hid h5
  have HSum := Lib.hid h6
  have hGH := guardHash
  clear hv hB0 hw0 h2 h3 h4 h5 h6 hla hlb eA eB eT eZ hi
  go_enter Tryd.func26, Tryd.ntmps26
  go_wp2_with fail
  rw [show (w.alloc (.cells #[.string ⟨#[33, 104, 97, 108, 108, 58, 48]⟩, .string ⟨#[64, 97, 110, 110, 58, 48]⟩, .int .u8 6, .string ⟨#[]⟩, .string ⟨#[104, 105]⟩, .int .i64 7] 36)) = w0 from Hw0.out.symm]
  refine (l1 w0).mono ?_
  rintro e w1 ⟨rfl, hb⟩
  have HV1 := Lib.hid (HV0.out.below hb)
  have HB1 := Lib.hid (HB0.out.trans (hb.mono HB0.out.size))
  have hx1 := (hb.block _ hl0).trans hx0
  have hl1 := lt_row hx1
  have hc1 := row_facts hx1
  clear hb
  go_wp2_with fail
  obtain ⟨wA, hwA⟩ : ∃ W, W = w1.alloc (.cells #[.string ⟨#[33, 104, 97, 108, 108, 58, 48]⟩, .string ⟨#[64, 97, 110, 110, 58, 48]⟩, .int .u8 6, .string ⟨#[]⟩, .string ⟨#[]⟩, .int .i64 7] 36) := ⟨_, rfl⟩
  have hb : Below w1.heap.size w1 wA := by rw [hwA]; exact (Below.refl _ w1).alloc (Nat.le_refl _) _
  have hyA : wA.heap[w1.heap.size]? = some (.cells #[.string ⟨#[33, 104, 97, 108, 108, 58, 48]⟩, .string ⟨#[64, 97, 110, 110, 58, 48]⟩, .int .u8 6, .string ⟨#[]⟩, .string ⟨#[]⟩, .int .i64 7] 36 (0, 0)) := by rw [hwA]; exact heap_new _ _
  rw [← hwA]
  have HVA := Lib.hid (HV1.out.below hb)
  have HBA := Lib.hid (HB1.out.trans (hb.mono HB1.out.size))
  have hxA := (hb.block _ hl1).trans hx1
  clear hb hwA hc1 hx1
  refine (H2.out wA HVA.out).mono ?_
  rintro e w2 ⟨rfl, hb⟩
  have HV2 := Lib.hid (HVA.out.below hb)
  have HB2 := Lib.hid (HBA.out.trans (hb.mono HBA.out.size))
  have hx2 := (hb.block _ (lt_row hxA)).trans hxA
  have hy2 := (hb.block _ (lt_row hyA)).trans hyA
  clear hb hxA hyA
  go_wp2_with (refine wpList_store_rowA rfl _ _ _ rfl w2.heap.size (pB 32 lA) rfl rfl _ _ (heap_new _ _) HIslA.out (by rw [pB_size HLlA.out]; rfl) (pB_one _ _) ?_)
  intro w3 hw3
  obtain ⟨hb3, hr3⟩ := row_new hw3
  have HV3 := Lib.hid (HV2.out.below hb3)
  have HB3 := Lib.hid (HB2.out.trans (hb3.mono HB2.out.size))
  have hx3 := (hb3.block _ (lt_row hx2)).trans hx2
  have hy3 := (hb3.block _ (lt_row hy2)).trans hy2
  have ha3 := hr3
  clear hb3 hr3 hw3 hx2 hy2
  obtain ⟨hc3, hf3⟩ := row_facts hx3
  have hl3 := lt_row hx3
  go_wp2_with fail
  refine (H3.out w3 HV3.out).mono ?_
  rintro e w4 ⟨rfl, hb⟩
  have HV4 := Lib.hid (HV3.out.below hb)
  have HB4 := Lib.hid (HB3.out.trans (hb.mono HB3.out.size))
  have hy4 := (hb.block _ (lt_row hy3)).trans hy3
  have ha4 := (hb.block _ (lt_row ha3)).trans ha3
  clear hb hy3 ha3 hc3 hf3 hx3
  go_wp2_with (refine wpList_store_rowA rfl _ _ _ rfl w4.heap.size (pB 32 lB) rfl rfl _ _ (heap_new _ _) HIslB.out (by rw [pB_size HLlB.out]; rfl) (pB_one _ _) ?_)
  intro w5 hw5
  obtain ⟨hb5, hr5⟩ := row_new hw5
  have HV5 := Lib.hid (HV4.out.below hb5)
  have HB5 := Lib.hid (HB4.out.trans (hb5.mono HB4.out.size))
  have hy5 := (hb5.block _ (lt_row hy4)).trans hy4
  have ha5 := (hb5.block _ (lt_row ha4)).trans ha4
  have hbb5 := hr5
  clear hb5 hr5 hw5 hy4 ha4
  obtain ⟨hc5, hf5⟩ := row_facts hy5
  have hm5 := lt_row hy5
  go_wp2_with fail
  refine (H4.out w5 HV5.out).mono ?_
  rintro e w6 ⟨rfl, hb⟩
  have HV6 := Lib.hid (HV5.out.below hb)
  have HB6 := Lib.hid (HB5.out.trans (hb.mono HB5.out.size))
  have hy6 := (hb.block _ (lt_row hy5)).trans hy5
  have ha6 := (hb.block _ (lt_row ha5)).trans ha5
  have hbb6 := (hb.block _ (lt_row hbb5)).trans hbb5
  clear hb hc5 hf5 hy5 ha5 hbb5
  go_wp2_with fail
  refine (H5.out w6 HV6.out).mono ?_
  rintro e w7 ⟨rfl, hb⟩
  have HV7 := Lib.hid (HV6.out.below hb)
  have HB7 := Lib.hid (HB6.out.trans (hb.mono HB6.out.size))
  have hy7 := (hb.block _ (lt_row hy6)).trans hy6
  have ha7 := (hb.block _ (lt_row ha6)).trans ha6
  have hbb7 := (hb.block _ (lt_row hbb6)).trans hbb6
  clear hb hy6 ha6 hbb6
  go_wp2_with (refine wpList_store_rowA rfl _ _ _ rfl w7.heap.size (pB 32 lZ) rfl rfl _ _ (heap_new _ _) HIslZ.out (by rw [pB_size HLlZ.out]; rfl) (pB_one _ _) ?_)
  intro w8 hw8
  obtain ⟨hb8, hr8⟩ := row_new hw8
  have HV8 := Lib.hid (HV7.out.below hb8)
  have HB8 := Lib.hid (HB7.out.trans (hb8.mono HB7.out.size))
  have hy8 := (hb8.block _ (lt_row hy7)).trans hy7
  have ha8 := (hb8.block _ (lt_row ha7)).trans ha7
  have hb8' := (hb8.block _ (lt_row hbb7)).trans hbb7
  clear hb8 hr8 hw8 hy7 ha7 hbb7
  have hb8 := hb8'
  clear hb8'
  go_wp2_with fail
  refine Uniform.region_chain (S := (fun W => W.heap[w1.heap.size]? = some (.cells #[.string ⟨#[33, 104, 97, 108, 108, 58, 48]⟩, .string ⟨#[64, 97, 110, 110, 58, 48]⟩, .int .u8 6, .string ⟨#[]⟩, .string ⟨#[]⟩, .int .i64 7] 36 (0, 0)) ∧ W.heap[w2.heap.size]? = some (.cells (pB 32 lA) 38 (0, 0)) ∧ W.heap[w4.heap.size]? = some (.cells (pB 32 lB) 38 (0, 0)) ∧ VarsR W ∧ Below w.heap.size w W)) (List.range 37) (by kernel_rfl) (by kernel_rfl) ⟨hy8, ha8, hb8, (HV8.out).below (Bl.drew (Below.refl _ _)), (HB8.out).drew⟩ ?_
  refine ⟨_, ?_, rfl, Or.inl ⟨by rfl, fun wq hSw => Uniform.UStep.value (w' := wq) ?_ hSw⟩, ?_⟩
  rotate_left
  · obtain ⟨q0, q1, q2, q3, q4⟩ := hSw
    obtain ⟨qc0, qf0⟩ := row_facts q0
    go_simp
    rfl
  simp only [Act.put, List.getElem_toArray, List.getElem_cons_zero, List.getElem_cons_succ, List.setIfInBounds_toArray, List.set_cons_zero, List.set_cons_succ]
  refine ⟨_, ?_, rfl, Or.inl ⟨by rfl, fun wq hSw => Uniform.UStep.value (w' := wq) ?_ hSw⟩, ?_⟩
  rotate_left
  · obtain ⟨q0, q1, q2, q3, q4⟩ := hSw
    obtain ⟨qc0, qf0⟩ := row_facts q0
    go_simp
    rfl
  simp only [Act.put, List.getElem_toArray, List.getElem_cons_zero, List.getElem_cons_succ, List.setIfInBounds_toArray, List.set_cons_zero, List.set_cons_succ]
  refine ⟨_, ?_, rfl, Or.inl ⟨by rfl, fun wq hSw => Uniform.UStep.value (w' := wq) ?_ hSw⟩, ?_⟩
  rotate_left
  · obtain ⟨q0, q1, q2, q3, q4⟩ := hSw
    obtain ⟨qc0, qf0⟩ := row_facts q0
    go_simp
    rfl
  simp only [Act.put, List.getElem_toArray, List.getElem_cons_zero, List.getElem_cons_succ, List.setIfInBounds_toArray, List.set_cons_zero, List.set_cons_succ]
  refine ⟨_, ?_, rfl, Or.inl ⟨by rfl, fun wq hSw => Uniform.UStep.value (w' := wq) ?_ hSw⟩, ?_⟩
  rotate_left
  · obtain ⟨q0, q1, q2, q3, q4⟩ := hSw
    obtain ⟨qc0, qf0⟩ := row_facts q0
    go_simp
    rfl
  simp only [Act.put, List.getElem_toArray, List.getElem_cons_zero, List.getElem_cons_succ, List.setIfInBounds_toArray, List.set_cons_zero, List.set_cons_succ]
  refine ⟨_, ?_, rfl, Or.inl ⟨by rfl, fun wq hSw => Uniform.UStep.value (w' := wq) ?_ hSw⟩, ?_⟩
  rotate_left
  · obtain ⟨q0, q1, q2, q3, q4⟩ := hSw
    obtain ⟨qc0, qf0⟩ := row_facts q0
    go_simp
    rfl
  simp only [Act.put, List.getElem_toArray, List.getElem_cons_zero, List.getElem_cons_succ, List.setIfInBounds_toArray, List.set_cons_zero, List.set_cons_succ]
  refine ⟨_, ?_, rfl, Or.inl ⟨by rfl, fun wq hSw => Uniform.UStep.value (w' := wq) ?_ hSw⟩, ?_⟩
  rotate_left
  · obtain ⟨q0, q1, q2, q3, q4⟩ := hSw
    obtain ⟨qc0, qf0⟩ := row_facts q0
    go_simp
    rfl
  simp only [Act.put, List.getElem_toArray, List.getElem_cons_zero, List.getElem_cons_succ, List.setIfInBounds_toArray, List.set_cons_zero, List.set_cons_succ]
  refine ⟨_, ?_, rfl, Or.inl ⟨by rfl, fun wq hSw => Uniform.UStep.value (w' := wq) ?_ hSw⟩, ?_⟩
  rotate_left
  · obtain ⟨q0, q1, q2, q3, q4⟩ := hSw
    obtain ⟨qc0, qf0⟩ := row_facts q0
    go_simp
    rfl
  simp only [Act.put, List.getElem_toArray, List.getElem_cons_zero, List.getElem_cons_succ, List.setIfInBounds_toArray, List.set_cons_zero, List.set_cons_succ]
  refine ⟨_, ?_, rfl, Or.inl ⟨by rfl, fun wq hSw => Uniform.UStep.value (w' := wq) ?_ hSw⟩, ?_⟩
  rotate_left
  · obtain ⟨q0, q1, q2, q3, q4⟩ := hSw
    obtain ⟨qc0, qf0⟩ := row_facts q0
    go_simp
    rfl
  simp only [Act.put, List.getElem_toArray, List.getElem_cons_zero, List.getElem_cons_succ, List.setIfInBounds_toArray, List.set_cons_zero, List.set_cons_succ]
  refine ⟨_, ?_, rfl, Or.inl ⟨by rfl, fun wq hSw => Uniform.UStep.value (w' := wq) ?_ hSw⟩, ?_⟩
  rotate_left
  · obtain ⟨q0, q1, q2, q3, q4⟩ := hSw
    obtain ⟨qc0, qf0⟩ := row_facts q0
    go_simp
    rfl
  simp only [Act.put, List.getElem_toArray, List.getElem_cons_zero, List.getElem_cons_succ, List.setIfInBounds_toArray, List.set_cons_zero, List.set_cons_succ]
  refine ⟨_, ?_, rfl, Or.inl ⟨by rfl, fun wq hSw => Uniform.UStep.value (w' := wq) ?_ hSw⟩, ?_⟩
  rotate_left
  · obtain ⟨q0, q1, q2, q3, q4⟩ := hSw
    obtain ⟨qc0, qf0⟩ := row_facts q0
    go_simp
    rfl
  simp only [Act.put, List.getElem_toArray, List.getElem_cons_zero, List.getElem_cons_succ, List.setIfInBounds_toArray, List.set_cons_zero, List.set_cons_succ]
  refine ⟨_, ?_, rfl, Or.inl ⟨by rfl, fun wq hSw => Uniform.UStep.value (w' := wq) ?_ hSw⟩, ?_⟩
  rotate_left
  · obtain ⟨q0, q1, q2, q3, q4⟩ := hSw
    obtain ⟨qc0, qf0⟩ := row_facts q0
    go_simp
    rfl
  simp only [Act.put, List.getElem_toArray, List.getElem_cons_zero, List.getElem_cons_succ, List.setIfInBounds_toArray, List.set_cons_zero, List.set_cons_succ]
  refine ⟨_, ?_, rfl, Or.inl ⟨by rfl, fun wq hSw => Uniform.UStep.value (w' := wq) ?_ hSw⟩, ?_⟩
  rotate_left
  · obtain ⟨q0, q1, q2, q3, q4⟩ := hSw
    obtain ⟨qc0, qf0⟩ := row_facts q0
    go_simp
    rfl
  simp only [Act.put, List.getElem_toArray, List.getElem_cons_zero, List.getElem_cons_succ, List.setIfInBounds_toArray, List.set_cons_zero, List.set_cons_succ]
  refine ⟨_, ?_, rfl, Or.inl ⟨by rfl, fun wq hSw => Uniform.UStep.value (w' := wq) ?_ hSw⟩, ?_⟩
  rotate_left
  · obtain ⟨q0, q1, q2, q3, q4⟩ := hSw
    obtain ⟨qc0, qf0⟩ := row_facts q0
    go_simp
    rfl
  simp only [Act.put, List.getElem_toArray, List.getElem_cons_zero, List.getElem_cons_succ, List.setIfInBounds_toArray, List.set_cons_zero, List.set_cons_succ]
  refine ⟨_, ?_, rfl, Or.inl ⟨by rfl, fun wq hSw => Uniform.UStep.value (w' := wq) ?_ hSw⟩, ?_⟩
  rotate_left
  · obtain ⟨q0, q1, q2, q3, q4⟩ := hSw
    obtain ⟨qc0, qf0⟩ := row_facts q0
    go_simp
    rfl
  simp only [Act.put, List.getElem_toArray, List.getElem_cons_zero, List.getElem_cons_succ, List.setIfInBounds_toArray, List.set_cons_zero, List.set_cons_succ]
  refine ⟨_, ?_, rfl, Or.inl ⟨by rfl, fun wq hSw => Uniform.UStep.value (w' := wq) ?_ hSw⟩, ?_⟩
  rotate_left
  · obtain ⟨q0, q1, q2, q3, q4⟩ := hSw
    obtain ⟨qc0, qf0⟩ := row_facts q0
    go_simp
    rfl
  simp only [Act.put, List.getElem_toArray, List.getElem_cons_zero, List.getElem_cons_succ, List.setIfInBounds_toArray, List.set_cons_zero, List.set_cons_succ]
  refine ⟨_, ?_, rfl, Or.inl ⟨by rfl, fun wq hSw => Uniform.UStep.value (w' := wq) ?_ hSw⟩, ?_⟩
  rotate_left
  · obtain ⟨q0, q1, q2, q3, q4⟩ := hSw
    obtain ⟨qc0, qf0⟩ := row_facts q0
    go_simp
    rfl
  simp only [Act.put, List.getElem_toArray, List.getElem_cons_zero, List.getElem_cons_succ, List.setIfInBounds_toArray, List.set_cons_zero, List.set_cons_succ]
  refine ⟨_, ?_, rfl, Or.inl ⟨by rfl, fun wq hSw => Uniform.UStep.value (w' := wq) ?_ hSw⟩, ?_⟩
  rotate_left
  · obtain ⟨q0, q1, q2, q3, q4⟩ := hSw
    obtain ⟨qc0, qf0⟩ := row_facts q0
    go_simp
    rfl
  simp only [Act.put, List.getElem_toArray, List.getElem_cons_zero, List.getElem_cons_succ, List.setIfInBounds_toArray, List.set_cons_zero, List.set_cons_succ]
  refine ⟨_, ?_, rfl, Or.inl ⟨by rfl, fun wq hSw => Uniform.UStep.value (w' := wq) ?_ hSw⟩, ?_⟩
  rotate_left
  · obtain ⟨q0, q1, q2, q3, q4⟩ := hSw
    obtain ⟨qc0, qf0⟩ := row_facts q0
    go_simp
    rfl
  simp only [Act.put, List.getElem_toArray, List.getElem_cons_zero, List.getElem_cons_succ, List.setIfInBounds_toArray, List.set_cons_zero, List.set_cons_succ]
  refine ⟨_, ?_, rfl, Or.inl ⟨by rfl, fun wq hSw => Uniform.UStep.value (w' := wq) ?_ hSw⟩, ?_⟩
  rotate_left
  · obtain ⟨q0, q1, q2, q3, q4⟩ := hSw
    obtain ⟨qc0, qf0⟩ := row_facts q0
    go_simp
    rfl
  simp only [Act.put, List.getElem_toArray, List.getElem_cons_zero, List.getElem_cons_succ, List.setIfInBounds_toArray, List.set_cons_zero, List.set_cons_succ]
  refine ⟨_, ?_, rfl, Or.inl ⟨by rfl, fun wq hSw => Uniform.UStep.value (w' := wq) ?_ hSw⟩, ?_⟩
  rotate_left
  · obtain ⟨q0, q1, q2, q3, q4⟩ := hSw
    obtain ⟨qc0, qf0⟩ := row_facts q0
    go_simp
    rfl
  simp only [Act.put, List.getElem_toArray, List.getElem_cons_zero, List.getElem_cons_succ, List.setIfInBounds_toArray, List.set_cons_zero, List.set_cons_succ]
  refine ⟨_, ?_, rfl, Or.inl ⟨by rfl, fun wq hSw => Uniform.UStep.value (w' := wq) ?_ hSw⟩, ?_⟩
  rotate_left
  · obtain ⟨q0, q1, q2, q3, q4⟩ := hSw
    obtain ⟨qc0, qf0⟩ := row_facts q0
    go_simp
    rfl
  simp only [Act.put, List.getElem_toArray, List.getElem_cons_zero, List.getElem_cons_succ, List.setIfInBounds_toArray, List.set_cons_zero, List.set_cons_succ]
  refine ⟨_, _, rfl, Or.inl ⟨by rfl, fun wq hSw => Uniform.UStep.value (w' := wq) (EqHash.exec_load_row 38 _ rfl _ rfl hSw.2.1 Tryd.underlying38 rfl HA.out) hSw⟩, ?_⟩
  simp only [Act.put, List.getElem_toArray, List.getElem_cons_zero, List.getElem_cons_succ, List.setIfInBounds_toArray, List.set_cons_zero, List.set_cons_succ]
  refine ⟨_, ?_, rfl, Or.inl ⟨by rfl, fun wq hSw => Uniform.UStep.value (w' := wq) ?_ hSw⟩, ?_⟩
  rotate_left
  · obtain ⟨q0, q1, q2, q3, q4⟩ := hSw
    obtain ⟨qc0, qf0⟩ := row_facts q0
    go_simp
    rfl
  simp only [Act.put, List.getElem_toArray, List.getElem_cons_zero, List.getElem_cons_succ, List.setIfInBounds_toArray, List.set_cons_zero, List.set_cons_succ]
  refine ⟨_, ?_, rfl, Or.inl ⟨by rfl, fun wq hSw => Uniform.UStep.value (w' := wq) ?_ hSw⟩, ?_⟩
  rotate_left
  · obtain ⟨q0, q1, q2, q3, q4⟩ := hSw
    obtain ⟨qc0, qf0⟩ := row_facts q0
    go_simp
    rfl
  simp only [Act.put, List.getElem_toArray, List.getElem_cons_zero, List.getElem_cons_succ, List.setIfInBounds_toArray, List.set_cons_zero, List.set_cons_succ]
  refine ⟨_, ?_, rfl, Or.inl ⟨by rfl, fun wq hSw => Uniform.UStep.call (w' := wq) ?_ ((HSum.out wq hSw.2.2.2.1).mono ?_)⟩, ?_⟩
  rotate_left
  · obtain ⟨q0, q1, q2, q3, q4⟩ := hSw
    obtain ⟨qc0, qf0⟩ := row_facts q0
    go_simp
    first | done | rfl | exact ⟨⟨rfl, rfl⟩, rfl⟩ | exact ⟨rfl, rfl⟩
  · have hSk := hSw
    obtain ⟨q0, q1, q2, q3, q4⟩ := hSw
    rintro e wq2 ⟨rfl, hbq⟩
    refine ⟨?_, (hbq.block _ (lt_row q0)).trans q0, (hbq.block _ (lt_row q1)).trans q1, (hbq.block _ (lt_row q2)).trans q2, q3.below hbq, q4.trans (hbq.mono q4.size)⟩
    rfl
  simp only [Act.put, List.getElem_toArray, List.getElem_cons_zero, List.getElem_cons_succ, List.setIfInBounds_toArray, List.set_cons_zero, List.set_cons_succ]
  refine ⟨_, ?_, rfl, Or.inl ⟨by rfl, fun wq hSw => Uniform.UStep.value (w' := wq) ?_ hSw⟩, ?_⟩
  rotate_left
  · obtain ⟨q0, q1, q2, q3, q4⟩ := hSw
    obtain ⟨qc0, qf0⟩ := row_facts q0
    go_simp
    rfl
  simp only [Act.put, List.getElem_toArray, List.getElem_cons_zero, List.getElem_cons_succ, List.setIfInBounds_toArray, List.set_cons_zero, List.set_cons_succ]
  refine ⟨_, ?_, rfl, Or.inl ⟨by rfl, fun wq hSw => Uniform.UStep.value (w' := wq) ?_ hSw⟩, ?_⟩
  rotate_left
  · obtain ⟨q0, q1, q2, q3, q4⟩ := hSw
    obtain ⟨qc0, qf0⟩ := row_facts q0
    go_simp
    rfl
  simp only [Act.put, List.getElem_toArray, List.getElem_cons_zero, List.getElem_cons_succ, List.setIfInBounds_toArray, List.set_cons_zero, List.set_cons_succ]
  refine ⟨_, ?_, rfl, Or.inl ⟨by rfl, fun wq hSw => Uniform.UStep.value (w' := wq) ?_ hSw⟩, ?_⟩
  rotate_left
  · obtain ⟨q0, q1, q2, q3, q4⟩ := hSw
    obtain ⟨qc0, qf0⟩ := row_facts q0
    go_simp
    rfl
  simp only [Act.put, List.getElem_toArray, List.getElem_cons_zero, List.getElem_cons_succ, List.setIfInBounds_toArray, List.set_cons_zero, List.set_cons_succ]
  refine ⟨_, _, rfl, Or.inl ⟨by rfl, fun wq hSw => Uniform.UStep.value (w' := wq) (EqHash.exec_load_row 38 _ rfl _ rfl hSw.2.1 Tryd.underlying38 rfl HA.out) hSw⟩, ?_⟩
  simp only [Act.put, List.getElem_toArray, List.getElem_cons_zero, List.getElem_cons_succ, List.setIfInBounds_toArray, List.set_cons_zero, List.set_cons_succ]
  refine ⟨_, _, rfl, Or.inl ⟨by rfl, fun wq hSw => Uniform.UStep.value (w' := wq) (EqHash.exec_load_row 38 _ rfl _ rfl hSw.2.2.1 Tryd.underlying38 rfl HBs.out) hSw⟩, ?_⟩
  simp only [Act.put, List.getElem_toArray, List.getElem_cons_zero, List.getElem_cons_succ, List.setIfInBounds_toArray, List.set_cons_zero, List.set_cons_succ]
  refine ⟨_, ?_, rfl, Or.inl ⟨by rfl, fun wq hSw => Uniform.UStep.value (w' := wq) ?_ hSw⟩, ?_⟩
  rotate_left
  · obtain ⟨q0, q1, q2, q3, q4⟩ := hSw
    obtain ⟨qc0, qf0⟩ := row_facts q0
    go_simp
    rfl
  simp only [Act.put, List.getElem_toArray, List.getElem_cons_zero, List.getElem_cons_succ, List.setIfInBounds_toArray, List.set_cons_zero, List.set_cons_succ]
  refine ⟨_, ?_, rfl, Or.inl ⟨by rfl, fun wq hSw => Uniform.UStep.value (w' := wq) ?_ hSw⟩, ?_⟩
  rotate_left
  · obtain ⟨q0, q1, q2, q3, q4⟩ := hSw
    obtain ⟨qc0, qf0⟩ := row_facts q0
    go_simp
    rfl
  simp only [Act.put, List.getElem_toArray, List.getElem_cons_zero, List.getElem_cons_succ, List.setIfInBounds_toArray, List.set_cons_zero, List.set_cons_succ]
  refine ⟨_, ?_, rfl, Or.inl ⟨by rfl, fun wq hSw => Uniform.UStep.value (w' := wq) ?_ hSw⟩, ?_⟩
  rotate_left
  · obtain ⟨q0, q1, q2, q3, q4⟩ := hSw
    obtain ⟨qc0, qf0⟩ := row_facts q0
    go_simp
    rfl
  simp only [Act.put, List.getElem_toArray, List.getElem_cons_zero, List.getElem_cons_succ, List.setIfInBounds_toArray, List.set_cons_zero, List.set_cons_succ]
  refine ⟨_, ?_, rfl, Or.inl ⟨by rfl, fun wq hSw => Uniform.UStep.value (w' := wq) ?_ hSw⟩, ?_⟩
  rotate_left
  · obtain ⟨q0, q1, q2, q3, q4⟩ := hSw
    obtain ⟨qc0, qf0⟩ := row_facts q0
    go_simp
    rfl
  simp only [Act.put, List.getElem_toArray, List.getElem_cons_zero, List.getElem_cons_succ, List.setIfInBounds_toArray, List.set_cons_zero, List.set_cons_succ]
  refine ⟨_, ?_, rfl, Or.inl ⟨by rfl, fun wq hSw => Uniform.UStep.value (w' := wq) ?_ hSw⟩, ?_⟩
  rotate_left
  · obtain ⟨q0, q1, q2, q3, q4⟩ := hSw
    obtain ⟨qc0, qf0⟩ := row_facts q0
    go_simp
    rfl
  simp only [Act.put, List.getElem_toArray, List.getElem_cons_zero, List.getElem_cons_succ, List.setIfInBounds_toArray, List.set_cons_zero, List.set_cons_succ]
  refine ⟨_, ?_, rfl, Or.inl ⟨by rfl, fun wq hSw => Uniform.UStep.value (w' := wq) ?_ hSw⟩, ?_⟩
  rotate_left
  · obtain ⟨q0, q1, q2, q3, q4⟩ := hSw
    obtain ⟨qc0, qf0⟩ := row_facts q0
    go_simp
    rfl
  simp only [Act.put, List.getElem_toArray, List.getElem_cons_zero, List.getElem_cons_succ, List.setIfInBounds_toArray, List.set_cons_zero, List.set_cons_succ]
  refine ⟨_, ?_, rfl, Or.inl ⟨by rfl, fun wq hSw => Uniform.UStep.value (w' := wq) ?_ hSw⟩, ?_⟩
  rotate_left
  · obtain ⟨q0, q1, q2, q3, q4⟩ := hSw
    obtain ⟨qc0, qf0⟩ := row_facts q0
    go_simp
    rfl
  simp only [Act.put, List.getElem_toArray, List.getElem_cons_zero, List.getElem_cons_succ, List.setIfInBounds_toArray, List.set_cons_zero, List.set_cons_succ]
  intro w9 hS9
  obtain ⟨_, _, _, _, q4⟩ := hS9
  go_wp2
  go_ret
  exact ⟨rfl, q4⟩

end Go.Proofs.YtfodloepkgkilaaDoor.RedL
