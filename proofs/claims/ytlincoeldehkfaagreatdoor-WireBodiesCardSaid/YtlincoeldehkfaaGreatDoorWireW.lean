/-
  WHAT IS PROVED: the statements' functions that compare messages, rejections and questions with the document's own answers answer true. Condition: the variables hold what 'VarsW' says, and the strings are not longer than each theorem says.
-/
import Derived.Test.YtlincoeldehkfaaGreatDoorWireN
import Derived.Test.YtlincoeldehkfaaGreatDoorWireM
namespace Go.Proofs.YtlincoeldehkfaaGreatDoor.WireW
open Go Go.RowKit Go.Shelf Go.Proofs.YtlincoeldehkfaaGreatDoor Go.Proofs.YtlincoeldehkfaaGreatDoor.OctetS Go.Proofs.YtlincoeldehkfaaGreatDoor.IdentS Go.Proofs.YtlincoeldehkfaaGreatDoor.EntS Go.Proofs.YtlincoeldehkfaaGreatDoor.WireS Go.Proofs.YtlincoeldehkfaaGreatDoor.OctG Go.Proofs.YtlincoeldehkfaaGreatDoor.OctP Go.Proofs.YtlincoeldehkfaaGreatDoor.OctQ Go.Proofs.YtlincoeldehkfaaGreatDoor.OctA Go.Proofs.YtlincoeldehkfaaGreatDoor.EventP Go.Proofs.YtlincoeldehkfaaGreatDoor.EventC Go.Proofs.YtlincoeldehkfaaGreatDoor.EntP Go.Proofs.YtlincoeldehkfaaGreatDoor.WireT Go.Proofs.YtlincoeldehkfaaGreatDoor.Steps Go.Proofs.YtlincoeldehkfaaGreatDoor.Wr Go.Proofs.YtlincoeldehkfaaGreatDoor.WireA
set_option linter.unusedVariables false
attribute [-go_sem] run_equalIn_agg
set_option linter.unusedSimpArgs false

set_option maxRecDepth 100000 in
set_option maxHeartbeats 4000000 in
theorem tells_ok (w : World) (hv : VarsW w) (p : Array Value) (k f t : Int) (b text : ByteArray) (hp : p = msA k f t b) (h0 : 0 ≤ k) (h1 : k ≤ 255) (hb : b.size ≤ 140737488351232) (ht : text.size ≤ 140737488351232) :
    Calls Tryz.prog 3 #[.agg p, .string text] w (RB (.bool true) w) := by
  have hps : p.size = 4 := by rw [hp]; rfl
  have HpS : Hid ((Tryz.prog.info? 24).map (·.size) = some p.size) := Lib.hid (by rw [hps]; kernel_rfl)
  have a1 : ∃ (T : ByteArray) (E : Int), (∀ w, VarsW w → Calls Tryz.prog 6 #[.agg p] w (RB (.tuple #[.string T, .int .i64 E]) w)) ∧ (∀ w, Calls Tryz.prog 7 #[.agg p] w (RB (.tuple #[.string T, .int .i64 E]) w)) :=
    ⟨_, _, fun w hv => WireI.Bytes_ok w p k f t b hp hv h0 hb, fun w => WireM.r_Bytes w p k f t b hp h0 h1 hb⟩
  have a2 : ∃ (X : Array Value) (E : Int), (∃ k f t b, X = msA k f t b) ∧ (∀ w, VarsW w → Calls Tryz.prog 8 #[.string text] w (RB (.tuple #[.agg X, .int .i64 E]) w)) ∧ (∀ w, Calls Tryz.prog 9 #[.string text] w (RB (.tuple #[.agg X, .int .i64 E]) w)) := by
    have c1 := fun w hv => WireI.Parse_ok w text ht hv
    have c2 := fun w => WireM.Parse_ok w text ht
    cases hx : parseM (bl text) with
    | none => rw [hx] at c1 c2; exact ⟨msZ, 6, ⟨0, 0, 0, ⟨#[]⟩, rfl⟩, c1, c2⟩
    | some x => rw [hx] at c1 c2; exact ⟨_, _, ⟨_, _, _, _, rfl⟩, c1, c2⟩
  have a3 : ∃ (E : Int), (∀ w, VarsW w → Calls Tryz.prog 10 #[.agg p] w (RB (.int .i64 E) w)) ∧ (∀ w, Calls Tryz.prog 11 #[.agg p] w (RB (.int .i64 E) w)) :=
    ⟨_, fun w hv => WireI.Check_ok w p k f t b hp hv h0 hb, fun w => WireM.r_Check w p k f t b hp h0 h1 hb⟩
  obtain ⟨T, E, a4, a5⟩ := a1
  obtain ⟨X, E3, ⟨k3, f3, t3, b3, hX⟩, a6, a7⟩ := a2
  obtain ⟨E4, a8, a9⟩ := a3
  have heq : ∀ w, (Op.equalIn 10000 24 (.agg X) (.agg X)).run Tryz.prog w = .ok true w := by rw [hX]; exact WireN.eqMs_self k3 f3 t3 b3
  have hG := WireN.guardMs
  have hXn : X.size = 4 := by rw [hX]; rfl
  have HXS : Hid ((Tryz.prog.info? 24).map (·.size) = some X.size) := Lib.hid (by rw [hXn]; kernel_rfl)
  have HXN : Hid (4 = X.size) := Lib.hid hXn.symm
  have HXO : Hid (X.all (·.oneCell') = true) := Lib.hid (by rw [hX]; simp [msA, Value.oneCell'])
  have C1 := Lib.hid a4
  have C2 := Lib.hid a5
  have C3 := Lib.hid a6
  have C4 := Lib.hid a7
  have C5 := Lib.hid a8
  have C6 := Lib.hid a9
  have Hp := Lib.hid hp
  have HEQ := Lib.hid heq
  have HGG := Lib.hid hG
  clear heq hG a4 a5 a6 a7 a8 a9 hX hXn hps hb ht h0 h1 hp
  obtain ⟨w0, hw0⟩ : ∃ w0, w0 = w.alloc (.cells p 24) := ⟨_, rfl⟩
  have hb0 : Below w.heap.size w w0 := by rw [hw0]; exact (Below.refl _ _).alloc (Nat.le_refl _) _
  have HP0 : Hid (w0.heap[w.heap.size]? = some (.cells p 24 (0, 0))) := Lib.hid (by rw [hw0]; exact heap_new _ _)
  have lP0 := lt_row HP0.out
  have HBL0 := Lib.hid hb0
  have HW0 := Lib.hid hw0
  have HV0 := Lib.hid (hv.below hb0)
  clear hw0 hb0 hv
  by_cases hbig : 65536 < text.size
  · skip
    go_enter Tryz.func3, Tryz.ntmps3
    go_wp2_with fail
    rw [← HW0.out]
    refine (WireN.lives_ok w0 HV0.out).mono ?_
    rintro e w1 ⟨rfl, hb⟩
    have HB1 := Lib.hid (HBL0.out.trans (hb.mono HBL0.out.size))
    clear hb
    go_wp2
    go_ret
    exact ⟨rfl, HB1.out⟩
  · skip
    go_enter Tryz.func3, Tryz.ntmps3
    go_wp2_with (first | (rw [← HW0.out]; refine wpList_load_row rfl _ _ rfl w.heap.size rfl _ p (0, 0) _ HP0.out Tryz.underlying24 rfl HpS.out ?_) | fail)
    refine (C1.out w0 HV0.out).mono ?_
    rintro e w1 ⟨rfl, hb⟩
    have HP1 := Lib.hid ((hb.block _ lP0).trans HP0.out)
    have lP1 := lt_row HP1.out
    have HBL1 := Lib.hid (HBL0.out.trans (hb.mono HBL0.out.size))
    have HV1 := Lib.hid (HV0.out.below hb)
    clear hb 
    clear lP0
    go_wp2_with (first | (refine wpList_load_row rfl _ _ rfl w.heap.size rfl _ p (0, 0) _ HP1.out Tryz.underlying24 rfl HpS.out ?_) | fail)
    refine (C2.out w1).mono ?_
    rintro e w2 ⟨rfl, hb⟩
    have HP2 := Lib.hid ((hb.block _ lP1).trans HP1.out)
    have lP2 := lt_row HP2.out
    have HBL2 := Lib.hid (HBL1.out.trans (hb.mono HBL1.out.size))
    have HV2 := Lib.hid (HV1.out.below hb)
    clear hb 
    clear lP1
    go_wp2_with fail
    refine (C3.out w2 HV2.out).mono ?_
    rintro e w3 ⟨rfl, hb⟩
    have HP3 := Lib.hid ((hb.block _ lP2).trans HP2.out)
    have lP3 := lt_row HP3.out
    have HBL3 := Lib.hid (HBL2.out.trans (hb.mono HBL2.out.size))
    have HV3 := Lib.hid (HV2.out.below hb)
    clear hb 
    clear lP2
    go_wp2_with (first | (refine wpList_store_rowA rfl _ _ _ rfl w3.heap.size X rfl rfl _ _ (heap_new _ _) HXS.out (by rw [← HXN.out]; rfl) HXO.out ?_) | fail)
    intro u1 hu1
    have hb : Below w3.heap.size w3 u1 := by rw [hu1.out]; exact below_row ((Below.refl _ _).alloc (Nat.le_refl _) _) (Nat.le_refl _) _
    have hy : u1.heap[w3.heap.size]? = some (.cells X 24 (0, 0)) := by rw [hu1.out]; exact setRow_at (heap_new _ _)
    clear hu1
    obtain ⟨w4, hww⟩ : ∃ w', w' = u1 := ⟨_, rfl⟩
    rw [← hww] at hb hy ⊢
    clear hww
    have Hyn := Lib.hid hy
    clear hy
    have HP4 := Lib.hid ((hb.block _ lP3).trans HP3.out)
    have lP4 := lt_row HP4.out
    have HBL4 := Lib.hid (HBL3.out.trans (hb.mono HBL3.out.size))
    have HV4 := Lib.hid (HV3.out.below hb)
    clear hb 
    clear lP3
    have HY4 := Lib.hid Hyn.out
    have lY4 := lt_row HY4.out
    clear Hyn
    go_wp2_with fail
    refine (C4.out w4).mono ?_
    rintro e w5 ⟨rfl, hb⟩
    have HP5 := Lib.hid ((hb.block _ lP4).trans HP4.out)
    have lP5 := lt_row HP5.out
    have HY5 := Lib.hid ((hb.block _ lY4).trans HY4.out)
    have lY5 := lt_row HY5.out
    have HBL5 := Lib.hid (HBL4.out.trans (hb.mono HBL4.out.size))
    have HV5 := Lib.hid (HV4.out.below hb)
    clear hb 
    clear lP4 lY4
    go_wp2_with (first | (refine wpList_store_rowA rfl _ _ _ rfl w5.heap.size X rfl rfl _ _ (heap_new _ _) HXS.out (by rw [← HXN.out]; rfl) HXO.out ?_) | fail)
    intro u1 hu1
    have hb : Below w5.heap.size w5 u1 := by rw [hu1.out]; exact below_row ((Below.refl _ _).alloc (Nat.le_refl _) _) (Nat.le_refl _) _
    have hy : u1.heap[w5.heap.size]? = some (.cells X 24 (0, 0)) := by rw [hu1.out]; exact setRow_at (heap_new _ _)
    clear hu1
    obtain ⟨w6, hww⟩ : ∃ w', w' = u1 := ⟨_, rfl⟩
    rw [← hww] at hb hy ⊢
    clear hww
    have Hyn := Lib.hid hy
    clear hy
    have HP6 := Lib.hid ((hb.block _ lP5).trans HP5.out)
    have lP6 := lt_row HP6.out
    have HY6 := Lib.hid ((hb.block _ lY5).trans HY5.out)
    have lY6 := lt_row HY6.out
    have HBL6 := Lib.hid (HBL5.out.trans (hb.mono HBL5.out.size))
    have HV6 := Lib.hid (HV5.out.below hb)
    clear hb 
    clear lP5 lY5
    have HQ6 := Lib.hid Hyn.out
    have lQ6 := lt_row HQ6.out
    clear Hyn
    go_wp2_with fail
    have heq := HEQ.out
    have hG := HGG.out
    refine Uniform.region_chain (S := (fun W => W.heap[w.heap.size]? = some (.cells p 24 (0, 0)) ∧ W.heap[w3.heap.size]? = some (.cells X 24 (0, 0)) ∧ W.heap[w5.heap.size]? = some (.cells X 24 (0, 0)) ∧ VarsW W ∧ Below w.heap.size w W)) (List.range 29) (by kernel_rfl) (by kernel_rfl) ⟨HP6.out, HY6.out, HQ6.out, (HV6.out).below (Bl.drew (Below.refl _ _)), (HBL6.out).drew⟩ ?_
    refine ⟨_, ?_, rfl, Or.inl ⟨by rfl, fun wq hSw => Uniform.UStep.call (w' := wq) ?_ ((WireN.lives_ok wq hSw.2.2.2.1).mono ?_)⟩, ?_⟩
    rotate_left
    · obtain ⟨q0, q1, q2, q3, q4⟩ := hSw
      go_simp
      first | done | rfl | exact ⟨⟨rfl, rfl⟩, rfl⟩ | exact ⟨rfl, rfl⟩
    · have hSk := hSw
      obtain ⟨q0, q1, q2, q3, q4⟩ := hSw
      rintro e wq2 ⟨rfl, hbq⟩
      refine ⟨?_, (hbq.block _ (lt_row q0)).trans q0, (hbq.block _ (lt_row q1)).trans q1, (hbq.block _ (lt_row q2)).trans q2, q3.below hbq, q4.trans (hbq.mono q4.size)⟩
      rfl
    simp only [Act.put, sx1, sx2, sx3, sx4, sx5, sx6]
    refine ⟨_, ?_, rfl, Or.inl ⟨by rfl, fun wq hSw => Uniform.UStep.value (w' := wq) ?_ hSw⟩, ?_⟩
    rotate_left
    · obtain ⟨q0, q1, q2, q3, q4⟩ := hSw
      go_simp
      rfl
    simp only [Act.put, sx1, sx2, sx3, sx4, sx5, sx6]
    refine ⟨_, _, rfl, Or.inl ⟨by rfl, fun wq hSw => Uniform.UStep.value (w' := wq) (EqHash.exec_load_row 24 _ rfl _ rfl hSw.1 Tryz.underlying24 rfl HpS.out) hSw⟩, ?_⟩
    simp only [Act.put, sx1, sx2, sx3, sx4, sx5, sx6]
    refine ⟨_, ?_, rfl, Or.inl ⟨by rfl, fun wq hSw => Uniform.UStep.call (w' := wq) ?_ ((C5.out wq hSw.2.2.2.1).mono ?_)⟩, ?_⟩
    rotate_left
    · obtain ⟨q0, q1, q2, q3, q4⟩ := hSw
      go_simp
      first | done | rfl | exact ⟨⟨rfl, rfl⟩, rfl⟩ | exact ⟨rfl, rfl⟩
    · have hSk := hSw
      obtain ⟨q0, q1, q2, q3, q4⟩ := hSw
      rintro e wq2 ⟨rfl, hbq⟩
      refine ⟨?_, (hbq.block _ (lt_row q0)).trans q0, (hbq.block _ (lt_row q1)).trans q1, (hbq.block _ (lt_row q2)).trans q2, q3.below hbq, q4.trans (hbq.mono q4.size)⟩
      rfl
    simp only [Act.put, sx1, sx2, sx3, sx4, sx5, sx6]
    refine ⟨_, _, rfl, Or.inl ⟨by rfl, fun wq hSw => Uniform.UStep.value (w' := wq) (EqHash.exec_load_row 24 _ rfl _ rfl hSw.1 Tryz.underlying24 rfl HpS.out) hSw⟩, ?_⟩
    simp only [Act.put, sx1, sx2, sx3, sx4, sx5, sx6]
    refine ⟨_, ?_, rfl, Or.inl ⟨by rfl, fun wq hSw => Uniform.UStep.call (w' := wq) ?_ ((C6.out wq).mono ?_)⟩, ?_⟩
    rotate_left
    · obtain ⟨q0, q1, q2, q3, q4⟩ := hSw
      go_simp
      first | done | rfl | exact ⟨⟨rfl, rfl⟩, rfl⟩ | exact ⟨rfl, rfl⟩
    · have hSk := hSw
      obtain ⟨q0, q1, q2, q3, q4⟩ := hSw
      rintro e wq2 ⟨rfl, hbq⟩
      refine ⟨?_, (hbq.block _ (lt_row q0)).trans q0, (hbq.block _ (lt_row q1)).trans q1, (hbq.block _ (lt_row q2)).trans q2, q3.below hbq, q4.trans (hbq.mono q4.size)⟩
      rfl
    simp only [Act.put, sx1, sx2, sx3, sx4, sx5, sx6]
    refine ⟨_, ?_, rfl, Or.inl ⟨by rfl, fun wq hSw => Uniform.UStep.value (w' := wq) ?_ hSw⟩, ?_⟩
    rotate_left
    · obtain ⟨q0, q1, q2, q3, q4⟩ := hSw
      go_simp
      rfl
    simp only [Act.put, sx1, sx2, sx3, sx4, sx5, sx6]
    refine ⟨_, ?_, rfl, Or.inl ⟨by rfl, fun wq hSw => Uniform.UStep.value (w' := wq) ?_ hSw⟩, ?_⟩
    rotate_left
    · obtain ⟨q0, q1, q2, q3, q4⟩ := hSw
      go_simp
      rfl
    simp only [Act.put, sx1, sx2, sx3, sx4, sx5, sx6]
    refine ⟨_, ?_, rfl, Or.inl ⟨by rfl, fun wq hSw => Uniform.UStep.value (w' := wq) ?_ hSw⟩, ?_⟩
    rotate_left
    · obtain ⟨q0, q1, q2, q3, q4⟩ := hSw
      go_simp
      rfl
    simp only [Act.put, sx1, sx2, sx3, sx4, sx5, sx6]
    refine ⟨_, ?_, rfl, Or.inl ⟨by rfl, fun wq hSw => Uniform.UStep.value (w' := wq) ?_ hSw⟩, ?_⟩
    rotate_left
    · obtain ⟨q0, q1, q2, q3, q4⟩ := hSw
      go_simp
      rfl
    simp only [Act.put, sx1, sx2, sx3, sx4, sx5, sx6]
    refine ⟨_, ?_, rfl, Or.inl ⟨by rfl, fun wq hSw => Uniform.UStep.value (w' := wq) ?_ hSw⟩, ?_⟩
    rotate_left
    · obtain ⟨q0, q1, q2, q3, q4⟩ := hSw
      go_simp
      rfl
    simp only [Act.put, sx1, sx2, sx3, sx4, sx5, sx6]
    refine ⟨_, ?_, rfl, Or.inl ⟨by rfl, fun wq hSw => Uniform.UStep.value (w' := wq) ?_ hSw⟩, ?_⟩
    rotate_left
    · obtain ⟨q0, q1, q2, q3, q4⟩ := hSw
      go_simp
      rfl
    simp only [Act.put, sx1, sx2, sx3, sx4, sx5, sx6]
    refine ⟨_, ?_, rfl, Or.inl ⟨by rfl, fun wq hSw => Uniform.UStep.value (w' := wq) ?_ hSw⟩, ?_⟩
    rotate_left
    · obtain ⟨q0, q1, q2, q3, q4⟩ := hSw
      go_simp
      rfl
    simp only [Act.put, sx1, sx2, sx3, sx4, sx5, sx6]
    refine ⟨_, ?_, rfl, Or.inl ⟨by rfl, fun wq hSw => Uniform.UStep.value (w' := wq) ?_ hSw⟩, ?_⟩
    rotate_left
    · obtain ⟨q0, q1, q2, q3, q4⟩ := hSw
      go_simp
      rfl
    simp only [Act.put, sx1, sx2, sx3, sx4, sx5, sx6]
    refine ⟨_, ?_, rfl, Or.inl ⟨by rfl, fun wq hSw => Uniform.UStep.value (w' := wq) ?_ hSw⟩, ?_⟩
    rotate_left
    · obtain ⟨q0, q1, q2, q3, q4⟩ := hSw
      go_simp
      rfl
    simp only [Act.put, sx1, sx2, sx3, sx4, sx5, sx6]
    refine ⟨_, ?_, rfl, Or.inl ⟨by rfl, fun wq hSw => Uniform.UStep.value (w' := wq) ?_ hSw⟩, ?_⟩
    rotate_left
    · obtain ⟨q0, q1, q2, q3, q4⟩ := hSw
      go_simp
      rfl
    simp only [Act.put, sx1, sx2, sx3, sx4, sx5, sx6]
    refine ⟨_, ?_, rfl, Or.inl ⟨by rfl, fun wq hSw => Uniform.UStep.value (w' := wq) ?_ hSw⟩, ?_⟩
    rotate_left
    · obtain ⟨q0, q1, q2, q3, q4⟩ := hSw
      go_simp
      rfl
    simp only [Act.put, sx1, sx2, sx3, sx4, sx5, sx6]
    refine ⟨_, ?_, rfl, Or.inl ⟨by rfl, fun wq hSw => Uniform.UStep.value (w' := wq) ?_ hSw⟩, ?_⟩
    rotate_left
    · obtain ⟨q0, q1, q2, q3, q4⟩ := hSw
      go_simp
      rfl
    simp only [Act.put, sx1, sx2, sx3, sx4, sx5, sx6]
    refine ⟨_, ?_, rfl, Or.inl ⟨by rfl, fun wq hSw => Uniform.UStep.value (w' := wq) ?_ hSw⟩, ?_⟩
    rotate_left
    · obtain ⟨q0, q1, q2, q3, q4⟩ := hSw
      go_simp
      rfl
    simp only [Act.put, sx1, sx2, sx3, sx4, sx5, sx6]
    refine ⟨_, _, rfl, Or.inl ⟨by rfl, fun wq hSw => Uniform.UStep.value (w' := wq) (EqHash.exec_load_row 24 _ rfl _ rfl hSw.2.1 Tryz.underlying24 rfl HXS.out) hSw⟩, ?_⟩
    simp only [Act.put, sx1, sx2, sx3, sx4, sx5, sx6]
    refine ⟨_, _, rfl, Or.inl ⟨by rfl, fun wq hSw => Uniform.UStep.value (w' := wq) (EqHash.exec_load_row 24 _ rfl _ rfl hSw.2.2.1 Tryz.underlying24 rfl HXS.out) hSw⟩, ?_⟩
    simp only [Act.put, sx1, sx2, sx3, sx4, sx5, sx6]
    refine ⟨_, ?_, rfl, Or.inl ⟨by rfl, fun wq hSw => Uniform.UStep.value (w' := wq) ?_ hSw⟩, ?_⟩
    rotate_left
    · obtain ⟨q0, q1, q2, q3, q4⟩ := hSw
      go_simp
      rfl
    simp only [Act.put, sx1, sx2, sx3, sx4, sx5, sx6]
    refine ⟨_, ?_, rfl, Or.inl ⟨by rfl, fun wq hSw => Uniform.UStep.value (w' := wq) ?_ hSw⟩, ?_⟩
    rotate_left
    · obtain ⟨q0, q1, q2, q3, q4⟩ := hSw
      go_simp
      rfl
    simp only [Act.put, sx1, sx2, sx3, sx4, sx5, sx6]
    refine ⟨_, ?_, rfl, Or.inl ⟨by rfl, fun wq hSw => Uniform.UStep.value (w' := wq) ?_ hSw⟩, ?_⟩
    rotate_left
    · obtain ⟨q0, q1, q2, q3, q4⟩ := hSw
      go_simp
      rfl
    simp only [Act.put, sx1, sx2, sx3, sx4, sx5, sx6]
    refine ⟨_, ?_, rfl, Or.inl ⟨by rfl, fun wq hSw => Uniform.UStep.value (w' := wq) ?_ hSw⟩, ?_⟩
    rotate_left
    · obtain ⟨q0, q1, q2, q3, q4⟩ := hSw
      go_simp
      rfl
    simp only [Act.put, sx1, sx2, sx3, sx4, sx5, sx6]
    refine ⟨_, ?_, rfl, Or.inl ⟨by rfl, fun wq hSw => Uniform.UStep.value (w' := wq) ?_ hSw⟩, ?_⟩
    rotate_left
    · obtain ⟨q0, q1, q2, q3, q4⟩ := hSw
      go_simp
      rfl
    simp only [Act.put, sx1, sx2, sx3, sx4, sx5, sx6]
    refine ⟨_, ?_, rfl, Or.inl ⟨by rfl, fun wq hSw => Uniform.UStep.value (w' := wq) ?_ hSw⟩, ?_⟩
    rotate_left
    · obtain ⟨q0, q1, q2, q3, q4⟩ := hSw
      go_simp
      rfl
    simp only [Act.put, sx1, sx2, sx3, sx4, sx5, sx6]
    refine ⟨_, ?_, rfl, Or.inl ⟨by rfl, fun wq hSw => Uniform.UStep.value (w' := wq) ?_ hSw⟩, ?_⟩
    rotate_left
    · obtain ⟨q0, q1, q2, q3, q4⟩ := hSw
      go_simp
      rfl
    simp only [Act.put, sx1, sx2, sx3, sx4, sx5, sx6]
    refine ⟨_, ?_, rfl, Or.inl ⟨by rfl, fun wq hSw => Uniform.UStep.value (w' := wq) ?_ hSw⟩, ?_⟩
    rotate_left
    · obtain ⟨q0, q1, q2, q3, q4⟩ := hSw
      go_simp
      rfl
    simp only [Act.put, sx1, sx2, sx3, sx4, sx5, sx6]
    intro w9 hS9
    obtain ⟨_, _, _, _, q6⟩ := hS9
    go_wp2
    go_ret
    exact ⟨rfl, q6⟩


theorem rejected_len {s : List UInt8} {x : List UInt8 × Nat} (h : rejected s = some x) : x.1.length = 32 := by
  obtain ⟨l, y, ha⟩ : ∃ l y, all s = (l, y) := ⟨_, _, rfl⟩
  by_cases hc : y = 0 ∧ l.length = 2
  · obtain ⟨rfl, h2⟩ := hc
    match l, h2, ha with
    | [a, b], _, ha =>
      rw [rejected_two ha] at h
      split at h
      · rename_i hc
        cases h
        exact hc.1
      · cases h
  · rw [rejected_bad ha (by omega)] at h
    cases h
set_option maxRecDepth 100000 in
set_option maxHeartbeats 4000000 in
theorem bodies_ok (w : World) (hv : VarsW w) (p : Array Value) (h : List UInt8) (c n : Int) (text : ByteArray) (hp : p = (byV h).toArray) (hh : h.length = 32) (ht : text.size ≤ 140737488351232) :
    Calls Tryz.prog 4 #[.agg p, .int .i64 c, .int .i64 n, .string text] w (RB (.bool true) w) := by
  have hps : p.size = 32 := by rw [hp]; simp [byV_length, hh]
  have HpS : Hid ((Tryz.prog.info? 34).map (·.size) = some p.size) := Lib.hid (by rw [hps]; kernel_rfl)
  have a1 : ∃ (T : ByteArray) (E : Int), (∀ w, Calls Tryz.prog 12 #[.agg p, .int .i64 c] w (RB (.tuple #[.string T, .int .i64 E]) w)) ∧ (∀ w, Calls Tryz.prog 13 #[.agg p, .int .i64 c] w (RB (.tuple #[.string T, .int .i64 E]) w)) := by
    have c1 := fun w => WireH.Reject_ok w p h c hp hh
    have c2 := fun w => WireL.r_Reject w p h c hp hh
    unfold WireH.rejectV at c1 c2
    split at c1
    · rename_i hc; rw [if_pos hc] at c2; exact ⟨_, _, c1, c2⟩
    · rename_i hc; rw [if_neg hc] at c2; exact ⟨_, _, c1, c2⟩
  have a2 : ∃ (T : ByteArray) (E : Int), (∀ w, Calls Tryz.prog 14 #[.int .i64 n] w (RB (.tuple #[.string T, .int .i64 E]) w)) ∧ (∀ w, Calls Tryz.prog 15 #[.int .i64 n] w (RB (.tuple #[.string T, .int .i64 E]) w)) := by
    have c1 := fun w => WireA.Ask_ok w n
    have c2 := fun w => WireL.r_Ask w n
    unfold WireA.askV at c1 c2
    split at c1
    · rename_i hc; rw [if_pos hc] at c2; exact ⟨_, _, c1, c2⟩
    · rename_i hc; rw [if_neg hc] at c2; exact ⟨_, _, c1, c2⟩
  have a3 : ∃ (X : Array Value) (C E : Int), (∃ l : List UInt8, l.length = 32 ∧ X = (byV l).toArray) ∧ (∀ w, Calls Tryz.prog 16 #[.string text] w (RB (.tuple #[.agg X, .int .i64 C, .int .i64 E]) w)) ∧ (∀ w, Calls Tryz.prog 17 #[.string text] w (RB (.tuple #[.agg X, .int .i64 C, .int .i64 E]) w)) := by
    have c1 := fun w => WireH.Rejected_ok w text ht
    have c2 := fun w => WireL.r_Rejected w text ht
    cases hx : rejected (bl text) with
    | none => rw [hx] at c1 c2; exact ⟨_, _, _, ⟨zero32, rfl, rfl⟩, c1, c2⟩
    | some x => rw [hx] at c1 c2; exact ⟨_, _, _, ⟨x.1, rejected_len hx, rfl⟩, c1, c2⟩
  have a4 : ∃ (N E : Int), (∀ w, Calls Tryz.prog 18 #[.string text] w fun e w' => e = .returned (.tuple #[.int .i64 N, .int .i64 E]) ∧ w = w') ∧ (∀ w, Calls Tryz.prog 19 #[.string text] w (RB (.tuple #[.int .i64 N, .int .i64 E]) w)) := by
    have c1 := fun w => WireA.Asked_ok w text (by unfold maxLen; omega)
    have c2 := fun w => WireL.r_Asked w text (by unfold maxLen; omega)
    cases hx : asked (bl text) with
    | none => rw [hx] at c1 c2; exact ⟨_, _, c1, c2⟩
    | some x => rw [hx] at c1 c2; exact ⟨_, _, c1, c2⟩
  obtain ⟨T1, E1, b1, b2⟩ := a1
  obtain ⟨T2, E2, b3, b4⟩ := a2
  obtain ⟨X, K3, E3, ⟨l, hl, hX⟩, b5, b6⟩ := a3
  obtain ⟨N4, E4, b7, b8⟩ := a4
  have heq : ∀ w, (Op.equalIn 10000 34 (.agg X) (.agg X)).run Tryz.prog w = .ok true w := by rw [hX]; exact WireN.eqHa_self hl
  have hG := EqHash.guardHash
  have hXn : X.size = 32 := by rw [hX]; simp [byV_length, hl]
  have HXS : Hid ((Tryz.prog.info? 34).map (·.size) = some X.size) := Lib.hid (by rw [hXn]; kernel_rfl)
  have HXN : Hid (32 = X.size) := Lib.hid hXn.symm
  have HXO : Hid (X.all (·.oneCell') = true) := Lib.hid (by rw [hX]; simp [byV, Value.oneCell'])
  have C1 := Lib.hid b1
  have C2 := Lib.hid b2
  have C3 := Lib.hid b3
  have C4 := Lib.hid b4
  have C5 := Lib.hid b5
  have C6 := Lib.hid b6
  have C7 := Lib.hid b7
  have C8 := Lib.hid b8
  have HEQ := Lib.hid heq
  have HGG := Lib.hid hG
  clear heq hG b1 b2 b3 b4 b5 b6 b7 b8 hX hl hXn hps ht hp hh
  obtain ⟨w0, hw0⟩ : ∃ w0, w0 = w.alloc (.cells p 34) := ⟨_, rfl⟩
  have hb0 : Below w.heap.size w w0 := by rw [hw0]; exact (Below.refl _ _).alloc (Nat.le_refl _) _
  have HP0 : Hid (w0.heap[w.heap.size]? = some (.cells p 34 (0, 0))) := Lib.hid (by rw [hw0]; exact heap_new _ _)
  have lP0 := lt_row HP0.out
  have HBL0 := Lib.hid hb0
  have HW0 := Lib.hid hw0
  have HV0 := Lib.hid (hv.below hb0)
  clear hw0 hb0 hv
  by_cases hbig : 16384 < text.size
  · skip
    go_enter Tryz.func4, Tryz.ntmps4
    go_wp2_with fail
    rw [← HW0.out]
    refine (WireN.lives_ok w0 HV0.out).mono ?_
    rintro e w1 ⟨rfl, hb⟩
    have HB1 := Lib.hid (HBL0.out.trans (hb.mono HBL0.out.size))
    clear hb
    go_wp2
    go_ret
    exact ⟨rfl, HB1.out⟩
  · skip
    go_enter Tryz.func4, Tryz.ntmps4
    go_wp2_with (first | (rw [← HW0.out]; refine wpList_load_row rfl _ _ rfl w.heap.size rfl _ p (0, 0) _ HP0.out Tryz.underlying34 rfl HpS.out ?_) | fail)
    refine (C1.out w0).mono ?_
    rintro e w1 ⟨rfl, hb⟩
    have HP1 := Lib.hid ((hb.block _ lP0).trans HP0.out)
    have lP1 := lt_row HP1.out
    have HBL1 := Lib.hid (HBL0.out.trans (hb.mono HBL0.out.size))
    have HV1 := Lib.hid (HV0.out.below hb)
    clear hb 
    clear lP0
    go_wp2_with (first | (refine wpList_load_row rfl _ _ rfl w.heap.size rfl _ p (0, 0) _ HP1.out Tryz.underlying34 rfl HpS.out ?_) | fail)
    refine (C2.out w1).mono ?_
    rintro e w2 ⟨rfl, hb⟩
    have HP2 := Lib.hid ((hb.block _ lP1).trans HP1.out)
    have lP2 := lt_row HP2.out
    have HBL2 := Lib.hid (HBL1.out.trans (hb.mono HBL1.out.size))
    have HV2 := Lib.hid (HV1.out.below hb)
    clear hb 
    clear lP1
    go_wp2_with fail
    refine (C3.out w2).mono ?_
    rintro e w3 ⟨rfl, hb⟩
    have HP3 := Lib.hid ((hb.block _ lP2).trans HP2.out)
    have lP3 := lt_row HP3.out
    have HBL3 := Lib.hid (HBL2.out.trans (hb.mono HBL2.out.size))
    have HV3 := Lib.hid (HV2.out.below hb)
    clear hb 
    clear lP2
    go_wp2_with fail
    refine (C4.out w3).mono ?_
    rintro e w4 ⟨rfl, hb⟩
    have HP4 := Lib.hid ((hb.block _ lP3).trans HP3.out)
    have lP4 := lt_row HP4.out
    have HBL4 := Lib.hid (HBL3.out.trans (hb.mono HBL3.out.size))
    have HV4 := Lib.hid (HV3.out.below hb)
    clear hb 
    clear lP3
    go_wp2_with fail
    refine (C5.out w4).mono ?_
    rintro e w5 ⟨rfl, hb⟩
    have HP5 := Lib.hid ((hb.block _ lP4).trans HP4.out)
    have lP5 := lt_row HP5.out
    have HBL5 := Lib.hid (HBL4.out.trans (hb.mono HBL4.out.size))
    have HV5 := Lib.hid (HV4.out.below hb)
    clear hb 
    clear lP4
    go_wp2_with (first | (refine wpList_store_rowA rfl _ _ _ rfl w5.heap.size X rfl rfl _ _ (heap_new _ _) HXS.out (by rw [← HXN.out]; rfl) HXO.out ?_) | fail)
    intro u1 hu1
    have hb : Below w5.heap.size w5 u1 := by rw [hu1.out]; exact below_row ((Below.refl _ _).alloc (Nat.le_refl _) _) (Nat.le_refl _) _
    have hy : u1.heap[w5.heap.size]? = some (.cells X 34 (0, 0)) := by rw [hu1.out]; exact setRow_at (heap_new _ _)
    clear hu1
    obtain ⟨w6, hww⟩ : ∃ w', w' = u1 := ⟨_, rfl⟩
    rw [← hww] at hb hy ⊢
    clear hww
    have Hyn := Lib.hid hy
    clear hy
    have HP6 := Lib.hid ((hb.block _ lP5).trans HP5.out)
    have lP6 := lt_row HP6.out
    have HBL6 := Lib.hid (HBL5.out.trans (hb.mono HBL5.out.size))
    have HV6 := Lib.hid (HV5.out.below hb)
    clear hb 
    clear lP5
    have HY6 := Lib.hid Hyn.out
    have lY6 := lt_row HY6.out
    clear Hyn
    go_wp2_with fail
    refine (C6.out w6).mono ?_
    rintro e w7 ⟨rfl, hb⟩
    have HP7 := Lib.hid ((hb.block _ lP6).trans HP6.out)
    have lP7 := lt_row HP7.out
    have HY7 := Lib.hid ((hb.block _ lY6).trans HY6.out)
    have lY7 := lt_row HY7.out
    have HBL7 := Lib.hid (HBL6.out.trans (hb.mono HBL6.out.size))
    have HV7 := Lib.hid (HV6.out.below hb)
    clear hb 
    clear lP6 lY6
    go_wp2_with (first | (refine wpList_store_rowA rfl _ _ _ rfl w7.heap.size X rfl rfl _ _ (heap_new _ _) HXS.out (by rw [← HXN.out]; rfl) HXO.out ?_) | fail)
    intro u1 hu1
    have hb : Below w7.heap.size w7 u1 := by rw [hu1.out]; exact below_row ((Below.refl _ _).alloc (Nat.le_refl _) _) (Nat.le_refl _) _
    have hy : u1.heap[w7.heap.size]? = some (.cells X 34 (0, 0)) := by rw [hu1.out]; exact setRow_at (heap_new _ _)
    clear hu1
    obtain ⟨w8, hww⟩ : ∃ w', w' = u1 := ⟨_, rfl⟩
    rw [← hww] at hb hy ⊢
    clear hww
    have Hyn := Lib.hid hy
    clear hy
    have HP8 := Lib.hid ((hb.block _ lP7).trans HP7.out)
    have lP8 := lt_row HP8.out
    have HY8 := Lib.hid ((hb.block _ lY7).trans HY7.out)
    have lY8 := lt_row HY8.out
    have HBL8 := Lib.hid (HBL7.out.trans (hb.mono HBL7.out.size))
    have HV8 := Lib.hid (HV7.out.below hb)
    clear hb 
    clear lP7 lY7
    have HQ8 := Lib.hid Hyn.out
    have lQ8 := lt_row HQ8.out
    clear Hyn
    go_wp2_with fail
    refine (C7.out w8).mono ?_
    rintro e wz ⟨rfl, rfl⟩
    go_wp2_with fail
    refine (C8.out w8).mono ?_
    rintro e w9 ⟨rfl, hb⟩
    have HP9 := Lib.hid ((hb.block _ lP8).trans HP8.out)
    have lP9 := lt_row HP9.out
    have HY9 := Lib.hid ((hb.block _ lY8).trans HY8.out)
    have lY9 := lt_row HY9.out
    have HQ9 := Lib.hid ((hb.block _ lQ8).trans HQ8.out)
    have lQ9 := lt_row HQ9.out
    have HBL9 := Lib.hid (HBL8.out.trans (hb.mono HBL8.out.size))
    have HV9 := Lib.hid (HV8.out.below hb)
    clear hb 
    clear lP8 lY8 lQ8
    go_wp2_with fail
    refine (WireN.lives_ok w9 HV9.out).mono ?_
    rintro e w10 ⟨rfl, hb⟩
    have HP10 := Lib.hid ((hb.block _ lP9).trans HP9.out)
    have lP10 := lt_row HP10.out
    have HY10 := Lib.hid ((hb.block _ lY9).trans HY9.out)
    have lY10 := lt_row HY10.out
    have HQ10 := Lib.hid ((hb.block _ lQ9).trans HQ9.out)
    have lQ10 := lt_row HQ10.out
    have HBL10 := Lib.hid (HBL9.out.trans (hb.mono HBL9.out.size))
    have HV10 := Lib.hid (HV9.out.below hb)
    clear hb 
    clear lP9 lY9 lQ9
    have heq := HEQ.out
    have hG := HGG.out
    go_wp2_with (first | (refine wpList_load_rowG (by rfl) _ _ rfl w5.heap.size rfl _ X (0, 0) _ HY10.out Tryz.underlying34 rfl HXS.out ?_) | (refine wpList_load_rowG (by rfl) _ _ rfl w7.heap.size rfl _ X (0, 0) _ HQ10.out Tryz.underlying34 rfl HXS.out ?_) | fail)
    go_ret
    exact ⟨rfl, HBL10.out⟩


end Go.Proofs.YtlincoeldehkfaaGreatDoor.WireW
