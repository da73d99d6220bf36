/-
  WHAT IS PROVED: the statement's function that asks whether there is left of an event, and are its sums, what the document says answers true. Condition: the variables hold what 'VarsR' says, the strings are not longer than the theorem says, and the kind is a number of eight bits.
-/
import Derived.Test.YtfodloepkgkilaaDoorRedStableW
import Derived.Test.YtfodloepkgkilaaDoorR3A
namespace Go.Proofs.YtfodloepkgkilaaDoor.RedTellsW
open Go Go.RowKit Go.Proofs.YtfodloepkgkilaaDoor Go.Proofs.YtfodloepkgkilaaDoor.OctetS Go.Proofs.YtfodloepkgkilaaDoor.IdentS Go.Proofs.YtfodloepkgkilaaDoor.EventS Go.Proofs.YtfodloepkgkilaaDoor.OctP Go.Proofs.YtfodloepkgkilaaDoor.IdentP Go.Proofs.YtfodloepkgkilaaDoor.EventP Go.Proofs.YtfodloepkgkilaaDoor.EventC Go.Proofs.YtfodloepkgkilaaDoor.EventB Go.Proofs.YtfodloepkgkilaaDoor.EventR Go.Proofs.YtfodloepkgkilaaDoor.ShaB Go.Proofs.YtfodloepkgkilaaDoor.ShaA Go.Proofs.YtfodloepkgkilaaDoor.Steps Go.Proofs.YtfodloepkgkilaaDoor.RedactS Go.Proofs.YtfodloepkgkilaaDoor.RedA Go.Proofs.YtfodloepkgkilaaDoor.RedB Go.Proofs.YtfodloepkgkilaaDoor.EqHash Go.Proofs.YtfodloepkgkilaaDoor.RedL Go.Proofs.YtfodloepkgkilaaDoor.RedStableW
set_option linter.unusedVariables false
set_option linter.unusedSimpArgs false
attribute [local go_sem] EqEvent.eqEvent eqHash
attribute [-go_sem] run_equalIn_agg

theorem allV_some (x : Ev) : ∃ (l : List UInt8) (E : Int), l.length ≤ 32 ∧ allV x = .tuple #[.agg (pB 32 l), .int .i64 E] := by
  obtain ⟨l, E, h, _, h2⟩ := sumV_all x
  exact ⟨l, E, h, h2⟩

set_option maxRecDepth 100000 in
set_option maxHeartbeats 4000000 in
theorem tells_ok (w : World) (hv : VarsR w) (r s : ByteArray) (k : Int) (ky b : ByteArray) (n : Int) (h0 : 0 ≤ k) (h1 : k ≤ 255) (hr : r.size ≤ 140737488351232) (hs : s.size ≤ 140737488351232) (hk : ky.size ≤ 140737488351232) (hb : b.size ≤ maxLen) :
    Calls Tryd.prog 5 #[evV r s k ky b n] w (RB (.bool true) w) := by
  have g1 := fun w hv => Ref_ok w r s k ky b n hv hr hs hk hb
  have g2 := fun w => R3A.Ref_ok w r s k ky b n h0 h1 hr hs hk hb
  have g3 := fun w hv => Content_ok w r s k ky b n hv hr hs hk hb
  have g4 := fun w => R3A.Content_ok w r s k ky b n h0 h1 hr hs hk hb
  have g5 := fun w => Redact_ok w r s k ky b n
  have g6 := fun w => R3A.Redact_ok w r s k ky b n
  obtain ⟨B, hB⟩ : ∃ B, B = bodyOf k b := ⟨_, rfl⟩
  rw [← hB] at g5 g6
  obtain ⟨lA, E, hlA, hE⟩ := refV_some (evOf r s k ky b n)
  obtain ⟨lB, F, hlB, hF⟩ := allV_some (evOf r s k ky b n)
  rw [hE] at g1 g2
  rw [hF] at g3 g4
  have hG := EqEvent.guardEvent
  have hGH := guardHash
  have hself := hEq_self lA
  have hself2 := hEq_self lB
  obtain ⟨w0, hw0⟩ : ∃ w0, w0 = w.alloc (.cells #[.string r, .string s, .int .u8 k, .string ky, .string b, .int .i64 n] 36) := ⟨_, rfl⟩
  have hB0 : Below w.heap.size w w0 := by rw [hw0]; exact (Below.refl _ w).alloc (Nat.le_refl _) _
  have hx0 : w0.heap[w.heap.size]? = some (.cells #[.string r, .string s, .int .u8 k, .string ky, .string b, .int .i64 n] 36 (0, 0)) := by rw [hw0]; exact heap_new _ _
  have HV0 := Lib.hid (hv.below hB0)
  have HB0 := Lib.hid hB0
  have Hw0 := Lib.hid hw0
  unfold evV at *
  have hi : (Tryd.prog.info? 38).map (·.size) = some 32 := by kernel_rfl
  have HIslA := Lib.hid (show (Tryd.prog.info? 38).map (·.size) = some (pB 32 lA).size by rw [pB_size hlA]; exact hi)
  have HIslB := Lib.hid (show (Tryd.prog.info? 38).map (·.size) = some (pB 32 lB).size by rw [pB_size hlB]; exact hi)
  have HLlA := Lib.hid hlA
  have HLlB := Lib.hid hlB
  have H1 := Lib.hid g1
  have H2 := Lib.hid g2
  have H3 := Lib.hid g3
  have H4 := Lib.hid g4
  have H5 := Lib.hid g5
  have H6 := Lib.hid g6
  clear g1 g2 g3 g4 g5 g6 hi hE hF hlA hlB hv hB0 hw0 hB hr hs hk hb h0 h1
  go_enter Tryd.func5, Tryd.ntmps5
  obtain ⟨hc0, hf0⟩ := row_facts hx0
  have hl0 := lt_row hx0
  go_wp2_with fail
  rw [show (w.alloc (.cells #[.string r, .string s, .int .u8 k, .string ky, .string b, .int .i64 n] 36)) = w0 from Hw0.out.symm]
  refine (H1.out w0 HV0.out).mono ?_
  rintro e w1 ⟨rfl, hb⟩
  have HV1 := Lib.hid (HV0.out.below hb)
  have HB1 := Lib.hid (HB0.out.trans (hb.mono HB0.out.size))
  have hx1 := (hb.block _ (lt_row hx0)).trans hx0
  clear hb hc0 hf0 hx0 
  go_wp2_with (refine wpList_store_rowA rfl _ _ _ rfl w1.heap.size (pB 32 lA) rfl rfl _ _ (heap_new _ _) HIslA.out (by rw [pB_size HLlA.out]; rfl) (pB_one _ _) ?_)
  intro w2 hw2
  obtain ⟨hb2, hr2⟩ := row_new hw2
  have HV2 := Lib.hid (HV1.out.below hb2)
  have HB2 := Lib.hid (HB1.out.trans (hb2.mono HB1.out.size))
  have hx2 := (hb2.block _ (lt_row hx1)).trans hx1
  have ar2 := hr2
  clear hb2 hr2 hw2 hx1 
  obtain ⟨hc2, hf2⟩ := row_facts hx2
  have hl2 := lt_row hx2
  go_wp2_with fail
  refine (H2.out w2).mono ?_
  rintro e w3 ⟨rfl, hb⟩
  have HV3 := Lib.hid (HV2.out.below hb)
  have HB3 := Lib.hid (HB2.out.trans (hb.mono HB2.out.size))
  have hx3 := (hb.block _ (lt_row hx2)).trans hx2
  have ar3 := (hb.block _ (lt_row ar2)).trans ar2
  clear hb hc2 hf2 hx2 ar2
  go_wp2_with (refine wpList_store_rowA rfl _ _ _ rfl w3.heap.size (pB 32 lA) rfl rfl _ _ (heap_new _ _) HIslA.out (by rw [pB_size HLlA.out]; rfl) (pB_one _ _) ?_)
  intro w4 hw4
  obtain ⟨hb4, hr4⟩ := row_new hw4
  have HV4 := Lib.hid (HV3.out.below hb4)
  have HB4 := Lib.hid (HB3.out.trans (hb4.mono HB3.out.size))
  have hx4 := (hb4.block _ (lt_row hx3)).trans hx3
  have ar4 := (hb4.block _ (lt_row ar3)).trans ar3
  have br4 := hr4
  clear hb4 hr4 hw4 hx3 ar3
  obtain ⟨hc4, hf4⟩ := row_facts hx4
  have hl4 := lt_row hx4
  go_wp2_with fail
  refine (H3.out w4 HV4.out).mono ?_
  rintro e w5 ⟨rfl, hb⟩
  have HV5 := Lib.hid (HV4.out.below hb)
  have HB5 := Lib.hid (HB4.out.trans (hb.mono HB4.out.size))
  have hx5 := (hb.block _ (lt_row hx4)).trans hx4
  have ar5 := (hb.block _ (lt_row ar4)).trans ar4
  have br5 := (hb.block _ (lt_row br4)).trans br4
  clear hb hc4 hf4 hx4 ar4 br4
  go_wp2_with (refine wpList_store_rowA rfl _ _ _ rfl w5.heap.size (pB 32 lB) rfl rfl _ _ (heap_new _ _) HIslB.out (by rw [pB_size HLlB.out]; rfl) (pB_one _ _) ?_)
  intro w6 hw6
  obtain ⟨hb6, hr6⟩ := row_new hw6
  have HV6 := Lib.hid (HV5.out.below hb6)
  have HB6 := Lib.hid (HB5.out.trans (hb6.mono HB5.out.size))
  have hx6 := (hb6.block _ (lt_row hx5)).trans hx5
  have ar6 := (hb6.block _ (lt_row ar5)).trans ar5
  have br6 := (hb6.block _ (lt_row br5)).trans br5
  have cr6 := hr6
  clear hb6 hr6 hw6 hx5 ar5 br5
  obtain ⟨hc6, hf6⟩ := row_facts hx6
  have hl6 := lt_row hx6
  go_wp2_with fail
  refine (H4.out w6).mono ?_
  rintro e w7 ⟨rfl, hb⟩
  have HV7 := Lib.hid (HV6.out.below hb)
  have HB7 := Lib.hid (HB6.out.trans (hb.mono HB6.out.size))
  have hx7 := (hb.block _ (lt_row hx6)).trans hx6
  have ar7 := (hb.block _ (lt_row ar6)).trans ar6
  have br7 := (hb.block _ (lt_row br6)).trans br6
  have cr7 := (hb.block _ (lt_row cr6)).trans cr6
  clear hb hc6 hf6 hx6 ar6 br6 cr6
  go_wp2_with (refine wpList_store_rowA rfl _ _ _ rfl w7.heap.size (pB 32 lB) rfl rfl _ _ (heap_new _ _) HIslB.out (by rw [pB_size HLlB.out]; rfl) (pB_one _ _) ?_)
  intro w8 hw8
  obtain ⟨hb8, hr8⟩ := row_new hw8
  have HV8 := Lib.hid (HV7.out.below hb8)
  have HB8 := Lib.hid (HB7.out.trans (hb8.mono HB7.out.size))
  have hx8 := (hb8.block _ (lt_row hx7)).trans hx7
  have ar8 := (hb8.block _ (lt_row ar7)).trans ar7
  have br8 := (hb8.block _ (lt_row br7)).trans br7
  have cr8 := (hb8.block _ (lt_row cr7)).trans cr7
  have dr8 := hr8
  clear hb8 hr8 hw8 hx7 ar7 br7 cr7
  go_wp2_with fail
  refine Uniform.region_chain (S := (fun W => W.heap[w.heap.size]? = some (.cells #[.string r, .string s, .int .u8 k, .string ky, .string b, .int .i64 n] 36 (0, 0)) ∧ W.heap[w1.heap.size]? = some (.cells (pB 32 lA) 38 (0, 0)) ∧ W.heap[w3.heap.size]? = some (.cells (pB 32 lA) 38 (0, 0)) ∧ W.heap[w5.heap.size]? = some (.cells (pB 32 lB) 38 (0, 0)) ∧ W.heap[w7.heap.size]? = some (.cells (pB 32 lB) 38 (0, 0)) ∧ VarsR W ∧ Below w.heap.size w W)) (List.range 29) (by kernel_rfl) (by kernel_rfl) ⟨hx8, ar8, br8, cr8, dr8, (HV8.out).below (Bl.drew (Below.refl _ _)), (HB8.out).drew⟩ ?_
  refine ⟨_, ?_, rfl, Or.inl ⟨by rfl, fun wq hSw => Uniform.UStep.call (w' := wq) ?_ ((lives_ok wq hSw.2.2.2.2.2.1).mono ?_)⟩, ?_⟩
  rotate_left
  · obtain ⟨q0, q1, q2, q3, q4, q5, q6⟩ := hSw
    obtain ⟨qc0, qf0⟩ := row_facts q0
    go_simp
    first | done | rfl | exact ⟨⟨rfl, rfl⟩, rfl⟩ | exact ⟨rfl, rfl⟩
  · have hSk := hSw
    obtain ⟨q0, q1, q2, q3, q4, q5, q6⟩ := hSw
    rintro e wq2 ⟨rfl, hbq⟩
    refine ⟨?_, (hbq.block _ (lt_row q0)).trans q0, (hbq.block _ (lt_row q1)).trans q1, (hbq.block _ (lt_row q2)).trans q2, (hbq.block _ (lt_row q3)).trans q3, (hbq.block _ (lt_row q4)).trans q4, q5.below hbq, q6.trans (hbq.mono q6.size)⟩
    rfl
  simp only [Act.put, List.getElem_toArray, List.getElem_cons_zero, List.getElem_cons_succ, List.setIfInBounds_toArray, List.set_cons_zero, List.set_cons_succ]
  refine ⟨_, ?_, rfl, Or.inl ⟨by rfl, fun wq hSw => Uniform.UStep.value (w' := wq) ?_ hSw⟩, ?_⟩
  rotate_left
  · obtain ⟨q0, q1, q2, q3, q4, q5, q6⟩ := hSw
    obtain ⟨qc0, qf0⟩ := row_facts q0
    go_simp
    rfl
  simp only [Act.put, List.getElem_toArray, List.getElem_cons_zero, List.getElem_cons_succ, List.setIfInBounds_toArray, List.set_cons_zero, List.set_cons_succ]
  refine ⟨_, ?_, rfl, Or.inl ⟨by rfl, fun wq hSw => Uniform.UStep.value (w' := wq) ?_ hSw⟩, ?_⟩
  rotate_left
  · obtain ⟨q0, q1, q2, q3, q4, q5, q6⟩ := hSw
    obtain ⟨qc0, qf0⟩ := row_facts q0
    go_simp
    rfl
  simp only [Act.put, List.getElem_toArray, List.getElem_cons_zero, List.getElem_cons_succ, List.setIfInBounds_toArray, List.set_cons_zero, List.set_cons_succ]
  refine ⟨_, ?_, rfl, Or.inl ⟨by rfl, fun wq hSw => Uniform.UStep.call (w' := wq) ?_ ((H5.out wq).mono ?_)⟩, ?_⟩
  rotate_left
  · obtain ⟨q0, q1, q2, q3, q4, q5, q6⟩ := hSw
    obtain ⟨qc0, qf0⟩ := row_facts q0
    go_simp
    first | done | rfl | exact ⟨⟨rfl, rfl⟩, rfl⟩ | exact ⟨rfl, rfl⟩
  · have hSk := hSw
    obtain ⟨q0, q1, q2, q3, q4, q5, q6⟩ := hSw
    rintro e wq2 ⟨rfl, hbq⟩
    refine ⟨?_, (hbq.block _ (lt_row q0)).trans q0, (hbq.block _ (lt_row q1)).trans q1, (hbq.block _ (lt_row q2)).trans q2, (hbq.block _ (lt_row q3)).trans q3, (hbq.block _ (lt_row q4)).trans q4, q5.below hbq, q6.trans (hbq.mono q6.size)⟩
    rfl
  simp only [Act.put, List.getElem_toArray, List.getElem_cons_zero, List.getElem_cons_succ, List.setIfInBounds_toArray, List.set_cons_zero, List.set_cons_succ]
  refine ⟨_, ?_, rfl, Or.inl ⟨by rfl, fun wq hSw => Uniform.UStep.value (w' := wq) ?_ hSw⟩, ?_⟩
  rotate_left
  · obtain ⟨q0, q1, q2, q3, q4, q5, q6⟩ := hSw
    obtain ⟨qc0, qf0⟩ := row_facts q0
    go_simp
    rfl
  simp only [Act.put, List.getElem_toArray, List.getElem_cons_zero, List.getElem_cons_succ, List.setIfInBounds_toArray, List.set_cons_zero, List.set_cons_succ]
  refine ⟨_, ?_, rfl, Or.inl ⟨by rfl, fun wq hSw => Uniform.UStep.call (w' := wq) ?_ ((H6.out wq).mono ?_)⟩, ?_⟩
  rotate_left
  · obtain ⟨q0, q1, q2, q3, q4, q5, q6⟩ := hSw
    obtain ⟨qc0, qf0⟩ := row_facts q0
    go_simp
    first | done | rfl | exact ⟨⟨rfl, rfl⟩, rfl⟩ | exact ⟨rfl, rfl⟩
  · have hSk := hSw
    obtain ⟨q0, q1, q2, q3, q4, q5, q6⟩ := hSw
    rintro e wq2 ⟨rfl, hbq⟩
    refine ⟨?_, (hbq.block _ (lt_row q0)).trans q0, (hbq.block _ (lt_row q1)).trans q1, (hbq.block _ (lt_row q2)).trans q2, (hbq.block _ (lt_row q3)).trans q3, (hbq.block _ (lt_row q4)).trans q4, q5.below hbq, q6.trans (hbq.mono q6.size)⟩
    rfl
  simp only [Act.put, List.getElem_toArray, List.getElem_cons_zero, List.getElem_cons_succ, List.setIfInBounds_toArray, List.set_cons_zero, List.set_cons_succ]
  refine ⟨_, ?_, rfl, Or.inl ⟨by rfl, fun wq hSw => Uniform.UStep.value (w' := wq) ?_ hSw⟩, ?_⟩
  rotate_left
  · obtain ⟨q0, q1, q2, q3, q4, q5, q6⟩ := hSw
    obtain ⟨qc0, qf0⟩ := row_facts q0
    go_simp
    rfl
  simp only [Act.put, List.getElem_toArray, List.getElem_cons_zero, List.getElem_cons_succ, List.setIfInBounds_toArray, List.set_cons_zero, List.set_cons_succ]
  refine ⟨_, ?_, rfl, Or.inl ⟨by rfl, fun wq hSw => Uniform.UStep.value (w' := wq) ?_ hSw⟩, ?_⟩
  rotate_left
  · obtain ⟨q0, q1, q2, q3, q4, q5, q6⟩ := hSw
    obtain ⟨qc0, qf0⟩ := row_facts q0
    go_simp
    rfl
  simp only [Act.put, List.getElem_toArray, List.getElem_cons_zero, List.getElem_cons_succ, List.setIfInBounds_toArray, List.set_cons_zero, List.set_cons_succ]
  refine ⟨_, ?_, rfl, Or.inl ⟨by rfl, fun wq hSw => Uniform.UStep.value (w' := wq) ?_ hSw⟩, ?_⟩
  rotate_left
  · obtain ⟨q0, q1, q2, q3, q4, q5, q6⟩ := hSw
    obtain ⟨qc0, qf0⟩ := row_facts q0
    go_simp
    rfl
  simp only [Act.put, List.getElem_toArray, List.getElem_cons_zero, List.getElem_cons_succ, List.setIfInBounds_toArray, List.set_cons_zero, List.set_cons_succ]
  refine ⟨_, _, rfl, Or.inl ⟨by rfl, fun wq hSw => Uniform.UStep.value (w' := wq) (EqHash.exec_load_row 38 _ rfl _ rfl hSw.2.1 Tryd.underlying38 rfl HIslA.out) hSw⟩, ?_⟩
  simp only [Act.put, List.getElem_toArray, List.getElem_cons_zero, List.getElem_cons_succ, List.setIfInBounds_toArray, List.set_cons_zero, List.set_cons_succ]
  refine ⟨_, _, rfl, Or.inl ⟨by rfl, fun wq hSw => Uniform.UStep.value (w' := wq) (EqHash.exec_load_row 38 _ rfl _ rfl hSw.2.2.1 Tryd.underlying38 rfl HIslA.out) hSw⟩, ?_⟩
  simp only [Act.put, List.getElem_toArray, List.getElem_cons_zero, List.getElem_cons_succ, List.setIfInBounds_toArray, List.set_cons_zero, List.set_cons_succ]
  refine ⟨_, ?_, rfl, Or.inl ⟨by rfl, fun wq hSw => Uniform.UStep.value (w' := wq) ?_ hSw⟩, ?_⟩
  rotate_left
  · obtain ⟨q0, q1, q2, q3, q4, q5, q6⟩ := hSw
    obtain ⟨qc0, qf0⟩ := row_facts q0
    go_simp
    rfl
  simp only [Act.put, List.getElem_toArray, List.getElem_cons_zero, List.getElem_cons_succ, List.setIfInBounds_toArray, List.set_cons_zero, List.set_cons_succ]
  refine ⟨_, ?_, rfl, Or.inl ⟨by rfl, fun wq hSw => Uniform.UStep.value (w' := wq) ?_ hSw⟩, ?_⟩
  rotate_left
  · obtain ⟨q0, q1, q2, q3, q4, q5, q6⟩ := hSw
    obtain ⟨qc0, qf0⟩ := row_facts q0
    go_simp
    rfl
  simp only [Act.put, List.getElem_toArray, List.getElem_cons_zero, List.getElem_cons_succ, List.setIfInBounds_toArray, List.set_cons_zero, List.set_cons_succ]
  refine ⟨_, ?_, rfl, Or.inl ⟨by rfl, fun wq hSw => Uniform.UStep.value (w' := wq) ?_ hSw⟩, ?_⟩
  rotate_left
  · obtain ⟨q0, q1, q2, q3, q4, q5, q6⟩ := hSw
    obtain ⟨qc0, qf0⟩ := row_facts q0
    go_simp
    rfl
  simp only [Act.put, List.getElem_toArray, List.getElem_cons_zero, List.getElem_cons_succ, List.setIfInBounds_toArray, List.set_cons_zero, List.set_cons_succ]
  refine ⟨_, ?_, rfl, Or.inl ⟨by rfl, fun wq hSw => Uniform.UStep.value (w' := wq) ?_ hSw⟩, ?_⟩
  rotate_left
  · obtain ⟨q0, q1, q2, q3, q4, q5, q6⟩ := hSw
    obtain ⟨qc0, qf0⟩ := row_facts q0
    go_simp
    rfl
  simp only [Act.put, List.getElem_toArray, List.getElem_cons_zero, List.getElem_cons_succ, List.setIfInBounds_toArray, List.set_cons_zero, List.set_cons_succ]
  refine ⟨_, ?_, rfl, Or.inl ⟨by rfl, fun wq hSw => Uniform.UStep.value (w' := wq) ?_ hSw⟩, ?_⟩
  rotate_left
  · obtain ⟨q0, q1, q2, q3, q4, q5, q6⟩ := hSw
    obtain ⟨qc0, qf0⟩ := row_facts q0
    go_simp
    rfl
  simp only [Act.put, List.getElem_toArray, List.getElem_cons_zero, List.getElem_cons_succ, List.setIfInBounds_toArray, List.set_cons_zero, List.set_cons_succ]
  refine ⟨_, ?_, rfl, Or.inl ⟨by rfl, fun wq hSw => Uniform.UStep.value (w' := wq) ?_ hSw⟩, ?_⟩
  rotate_left
  · obtain ⟨q0, q1, q2, q3, q4, q5, q6⟩ := hSw
    obtain ⟨qc0, qf0⟩ := row_facts q0
    go_simp
    rfl
  simp only [Act.put, List.getElem_toArray, List.getElem_cons_zero, List.getElem_cons_succ, List.setIfInBounds_toArray, List.set_cons_zero, List.set_cons_succ]
  refine ⟨_, ?_, rfl, Or.inl ⟨by rfl, fun wq hSw => Uniform.UStep.value (w' := wq) ?_ hSw⟩, ?_⟩
  rotate_left
  · obtain ⟨q0, q1, q2, q3, q4, q5, q6⟩ := hSw
    obtain ⟨qc0, qf0⟩ := row_facts q0
    go_simp
    rfl
  simp only [Act.put, List.getElem_toArray, List.getElem_cons_zero, List.getElem_cons_succ, List.setIfInBounds_toArray, List.set_cons_zero, List.set_cons_succ]
  refine ⟨_, ?_, rfl, Or.inl ⟨by rfl, fun wq hSw => Uniform.UStep.value (w' := wq) ?_ hSw⟩, ?_⟩
  rotate_left
  · obtain ⟨q0, q1, q2, q3, q4, q5, q6⟩ := hSw
    obtain ⟨qc0, qf0⟩ := row_facts q0
    go_simp
    rfl
  simp only [Act.put, List.getElem_toArray, List.getElem_cons_zero, List.getElem_cons_succ, List.setIfInBounds_toArray, List.set_cons_zero, List.set_cons_succ]
  refine ⟨_, _, rfl, Or.inl ⟨by rfl, fun wq hSw => Uniform.UStep.value (w' := wq) (EqHash.exec_load_row 38 _ rfl _ rfl hSw.2.2.2.1 Tryd.underlying38 rfl HIslB.out) hSw⟩, ?_⟩
  simp only [Act.put, List.getElem_toArray, List.getElem_cons_zero, List.getElem_cons_succ, List.setIfInBounds_toArray, List.set_cons_zero, List.set_cons_succ]
  refine ⟨_, _, rfl, Or.inl ⟨by rfl, fun wq hSw => Uniform.UStep.value (w' := wq) (EqHash.exec_load_row 38 _ rfl _ rfl hSw.2.2.2.2.1 Tryd.underlying38 rfl HIslB.out) hSw⟩, ?_⟩
  simp only [Act.put, List.getElem_toArray, List.getElem_cons_zero, List.getElem_cons_succ, List.setIfInBounds_toArray, List.set_cons_zero, List.set_cons_succ]
  refine ⟨_, ?_, rfl, Or.inl ⟨by rfl, fun wq hSw => Uniform.UStep.value (w' := wq) ?_ hSw⟩, ?_⟩
  rotate_left
  · obtain ⟨q0, q1, q2, q3, q4, q5, q6⟩ := hSw
    obtain ⟨qc0, qf0⟩ := row_facts q0
    go_simp
    rfl
  simp only [Act.put, List.getElem_toArray, List.getElem_cons_zero, List.getElem_cons_succ, List.setIfInBounds_toArray, List.set_cons_zero, List.set_cons_succ]
  refine ⟨_, ?_, rfl, Or.inl ⟨by rfl, fun wq hSw => Uniform.UStep.value (w' := wq) ?_ hSw⟩, ?_⟩
  rotate_left
  · obtain ⟨q0, q1, q2, q3, q4, q5, q6⟩ := hSw
    obtain ⟨qc0, qf0⟩ := row_facts q0
    go_simp
    rfl
  simp only [Act.put, List.getElem_toArray, List.getElem_cons_zero, List.getElem_cons_succ, List.setIfInBounds_toArray, List.set_cons_zero, List.set_cons_succ]
  refine ⟨_, ?_, rfl, Or.inl ⟨by rfl, fun wq hSw => Uniform.UStep.value (w' := wq) ?_ hSw⟩, ?_⟩
  rotate_left
  · obtain ⟨q0, q1, q2, q3, q4, q5, q6⟩ := hSw
    obtain ⟨qc0, qf0⟩ := row_facts q0
    go_simp
    rfl
  simp only [Act.put, List.getElem_toArray, List.getElem_cons_zero, List.getElem_cons_succ, List.setIfInBounds_toArray, List.set_cons_zero, List.set_cons_succ]
  refine ⟨_, ?_, rfl, Or.inl ⟨by rfl, fun wq hSw => Uniform.UStep.value (w' := wq) ?_ hSw⟩, ?_⟩
  rotate_left
  · obtain ⟨q0, q1, q2, q3, q4, q5, q6⟩ := hSw
    obtain ⟨qc0, qf0⟩ := row_facts q0
    go_simp
    rfl
  simp only [Act.put, List.getElem_toArray, List.getElem_cons_zero, List.getElem_cons_succ, List.setIfInBounds_toArray, List.set_cons_zero, List.set_cons_succ]
  refine ⟨_, ?_, rfl, Or.inl ⟨by rfl, fun wq hSw => Uniform.UStep.value (w' := wq) ?_ hSw⟩, ?_⟩
  rotate_left
  · obtain ⟨q0, q1, q2, q3, q4, q5, q6⟩ := hSw
    obtain ⟨qc0, qf0⟩ := row_facts q0
    go_simp
    rfl
  simp only [Act.put, List.getElem_toArray, List.getElem_cons_zero, List.getElem_cons_succ, List.setIfInBounds_toArray, List.set_cons_zero, List.set_cons_succ]
  refine ⟨_, ?_, rfl, Or.inl ⟨by rfl, fun wq hSw => Uniform.UStep.value (w' := wq) ?_ hSw⟩, ?_⟩
  rotate_left
  · obtain ⟨q0, q1, q2, q3, q4, q5, q6⟩ := hSw
    obtain ⟨qc0, qf0⟩ := row_facts q0
    go_simp
    rfl
  simp only [Act.put, List.getElem_toArray, List.getElem_cons_zero, List.getElem_cons_succ, List.setIfInBounds_toArray, List.set_cons_zero, List.set_cons_succ]
  refine ⟨_, ?_, rfl, Or.inl ⟨by rfl, fun wq hSw => Uniform.UStep.value (w' := wq) ?_ hSw⟩, ?_⟩
  rotate_left
  · obtain ⟨q0, q1, q2, q3, q4, q5, q6⟩ := hSw
    obtain ⟨qc0, qf0⟩ := row_facts q0
    go_simp
    rfl
  simp only [Act.put, List.getElem_toArray, List.getElem_cons_zero, List.getElem_cons_succ, List.setIfInBounds_toArray, List.set_cons_zero, List.set_cons_succ]
  refine ⟨_, ?_, rfl, Or.inl ⟨by rfl, fun wq hSw => Uniform.UStep.value (w' := wq) ?_ hSw⟩, ?_⟩
  rotate_left
  · obtain ⟨q0, q1, q2, q3, q4, q5, q6⟩ := hSw
    obtain ⟨qc0, qf0⟩ := row_facts q0
    go_simp
    rfl
  simp only [Act.put, List.getElem_toArray, List.getElem_cons_zero, List.getElem_cons_succ, List.setIfInBounds_toArray, List.set_cons_zero, List.set_cons_succ]
  intro w9 hS9
  obtain ⟨_, _, _, _, _, _, q6⟩ := hS9
  go_wp2
  go_ret
  exact ⟨rfl, q6⟩

end Go.Proofs.YtfodloepkgkilaaDoor.RedTellsW
