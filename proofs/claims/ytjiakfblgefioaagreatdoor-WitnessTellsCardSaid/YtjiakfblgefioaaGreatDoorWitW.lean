/-
  WHAT IS PROVED: the statement's function that asks whether the scripts are those that the document says answers true. Condition: the variables hold what 'VarsE' says.
-/
import Derived.Test.YtjiakfblgefioaaGreatDoorWitG
import Derived.Test.YtjiakfblgefioaaGreatDoorWitH
import Derived.Test.YtjiakfblgefioaaGreatDoorWitQ
namespace Go.Proofs.YtjiakfblgefioaaGreatDoor.WitW
open Go Go.RowKit Go.Shelf Go.Proofs.YtjiakfblgefioaaGreatDoor Go.Proofs.YtjiakfblgefioaaGreatDoor.OctetS Go.Proofs.YtjiakfblgefioaaGreatDoor.IdentS Go.Proofs.YtjiakfblgefioaaGreatDoor.EventS Go.Proofs.YtjiakfblgefioaaGreatDoor.EntS Go.Proofs.YtjiakfblgefioaaGreatDoor.OctP Go.Proofs.YtjiakfblgefioaaGreatDoor.OctQ Go.Proofs.YtjiakfblgefioaaGreatDoor.IdentP Go.Proofs.YtjiakfblgefioaaGreatDoor.IdentR Go.Proofs.YtjiakfblgefioaaGreatDoor.EventP Go.Proofs.YtjiakfblgefioaaGreatDoor.EventC Go.Proofs.YtjiakfblgefioaaGreatDoor.EventB Go.Proofs.YtjiakfblgefioaaGreatDoor.EntP Go.Proofs.YtjiakfblgefioaaGreatDoor.RowsX Go.Proofs.YtjiakfblgefioaaGreatDoor.WitS Go.Proofs.YtjiakfblgefioaaGreatDoor.WitA Go.Proofs.YtjiakfblgefioaaGreatDoor.WitD Go.Proofs.YtjiakfblgefioaaGreatDoor.WitE Go.Proofs.YtjiakfblgefioaaGreatDoor.RedA
set_option linter.unusedVariables false
set_option linter.unusedSimpArgs false

attribute [local go_sem] WitQ.eqSet
attribute [-go_sem] run_equalIn_agg

set_option maxRecDepth 100000 in
set_option maxHeartbeats 4000000 in
theorem lives_ok (w : World) (hv : VarsE w) : Calls Tryz.prog 11 #[] w (RB (.bool true) w) := by
  have h2 := fun w hv => Long_ok w 2 hv
  have h101 := fun w hv => Long_ok w 101 hv
  simp only [show (1 : Int) ≤ 2 ∧ (2 : Int) ≤ 100 by omega, if_true] at h2
  simp only [show ¬ ((1 : Int) ≤ 101 ∧ (101 : Int) ≤ 100) by omega, if_false] at h101
  unfold LongPost setV at h2
  unfold LongNo at h101
  rw [show high 2 = 1 by decide] at h2
  have HV := Lib.hid hv
  have H2 := Lib.hid h2
  have H101 := Lib.hid h101
  clear hv h2 h101
  have HBL0 := Lib.hid (Below.refl w.heap.size w)
  obtain ⟨w0, hw0⟩ : ∃ x, x = w := ⟨_, rfl⟩
  rw [← hw0] at HBL0
  rw [show Calls Tryz.prog 11 #[] w = Calls Tryz.prog 11 #[] w0 by rw [hw0]]
  rw [show RB (.bool true) w = RB (.bool true) w0 by rw [hw0]]
  rw [← hw0] at HV
  clear hw0 w
  go_enter Tryz.func11, Tryz.ntmps11
  go_wp2_with fail
  refine (H2.out w0 (HV.out.below HBL0.out)).mono ?_
  rintro e w1 ⟨v, rfl, hsl, hb⟩
  have HBL1 := Lib.hid (HBL0.out.trans (hb.mono HBL0.out.size))
  clear hb 
  have Hx1 := Lib.hid hsl
  clear hsl
  go_wp2_with fail
  obtain ⟨w2, hw⟩ : ∃ x, x = w1.alloc (.cells #[.int .i64 3, .int .u64 0, .int .i64 1, .int .i64 1048576, .int .i64 2] 24) := ⟨_, rfl⟩
  rw [← hw]
  have hb : Below w1.heap.size w1 w2 := by rw [hw]; exact (Below.refl _ _).alloc (Nat.le_refl _) _
  have ha2 : w2.heap[w1.heap.size]? = some (.cells #[.int .i64 3, .int .u64 0, .int .i64 1, .int .i64 1048576, .int .i64 2] 24 (0, 0)) := by rw [hw]; exact heap_new _ _
  have HBL2 := Lib.hid (HBL1.out.trans (hb.mono HBL1.out.size))
  have Hx2 := Lib.hid (Hx1.out.below hb)
  clear hb hw 
  go_wp2_with fail
  refine (H101.out w2 (HV.out.below HBL2.out)).mono ?_
  rintro e w3 ⟨rfl, hb⟩
  have HBL3 := Lib.hid (HBL2.out.trans (hb.mono HBL2.out.size))
  have ha3 := (hb.block _ (lt_row ha2)).trans ha2
  have Hx3 := Lib.hid (Hx2.out.below hb)
  clear hb ha2
  have hl := Hx3.out
  rw [show (longL (2 : Int).toNat).length = 6 from rfl] at hl
  obtain ⟨av, cv, rfl, _, _⟩ := hl.form
  obtain ⟨ab, ao, rfl, hab, g0, _⟩ := WitQ.dd_cells (l := longL 2) hl 0 (cl (nthT 1)) rfl
  simp only [cl, Nat.zero_mul, Nat.add_zero] at g0
  clear hl Hx1 Hx2 Hx3
  have g0' := cell_alloc g0 (.cells #[.int .i64 0, .int .u64 0, .int .i64 0, .int .i64 0, .int .i64 0] 24)
  have hA := heap_at ha3 (.cells #[.int .i64 0, .int .u64 0, .int .i64 0, .int .i64 0, .int .i64 0] 24)
  have HA := Lib.hid hA
  obtain ⟨ca, fa⟩ := row_facts hA
  have la := lt_row hA
  have hG := WitQ.guardSet
  clear ha3 hA g0
  go_wp2
  go_ret
  exact ⟨rfl, Bl.new HBL3.out _⟩

set_option maxRecDepth 100000 in
set_option maxHeartbeats 4000000 in
theorem tells_in (w : World) (n : Int) (hv : VarsE w) (hn : 1 ≤ n ∧ n ≤ 100) : Calls Tryz.prog 3 #[.int .i64 n] w (RB (.bool true) w) := by
  have hA := fun w hv => Long_ok w n hv
  have hB := fun w => WitH.Long_ok w n
  simp only [show 1 ≤ n ∧ n ≤ 100 from hn, if_true] at hA hB
  unfold LongPost setV at hA hB
  obtain ⟨hi, hhi⟩ : ∃ x, x = high n := ⟨_, rfl⟩
  rw [← hhi] at hA hB
  obtain ⟨L, hL⟩ : ∃ x, x = longL n.toNat := ⟨_, rfl⟩
  rw [← hL] at hA hB
  clear hhi hL
  have hC := fun w hv => WitD.Two_ok w hv
  have hD := fun w => WitF.Two_ok w
  have hE := fun w hv => Turn_ok w hv
  have hF := fun w => WitG.Turn_ok w
  unfold ScrPost setV at hC hD hE hF
  have hLi := fun w hv => lives_ok w hv
  have HV := Lib.hid hv
  have HA := Lib.hid hA
  have HB := Lib.hid hB
  have HC := Lib.hid hC
  have HD := Lib.hid hD
  have HE := Lib.hid hE
  have HF := Lib.hid hF
  have HLi := Lib.hid hLi
  clear hA hB hC hD hE hF hLi hv hn
  have HBL0 := Lib.hid (Below.refl w.heap.size w)
  obtain ⟨w0, hw0⟩ : ∃ x, x = w := ⟨_, rfl⟩
  rw [← hw0] at HBL0
  rw [show Calls Tryz.prog 3 #[.int .i64 n] w = Calls Tryz.prog 3 #[.int .i64 n] w0 by rw [hw0]]
  rw [show RB (.bool true) w = RB (.bool true) w0 by rw [hw0]]
  rw [← hw0] at HV
  clear hw0 w
  go_enter Tryz.func3, Tryz.ntmps3
  go_wp2_with fail
  refine (HA.out w0 (HV.out.below HBL0.out)).mono ?_
  rintro e w1 ⟨va, rfl, hsl, hb⟩
  have HBL1 := Lib.hid (HBL0.out.trans (hb.mono HBL0.out.size))
  clear hb 
  have Ha1 := Lib.hid hsl
  clear hsl
  go_wp2_with fail
  obtain ⟨w2, hw⟩ : ∃ x, x = w1.alloc (.cells #[.int .i64 3, .int .u64 0, .int .i64 hi, .int .i64 1048576, .int .i64 2] 24) := ⟨_, rfl⟩
  rw [← hw]
  have hb : Below w1.heap.size w1 w2 := by rw [hw]; exact (Below.refl _ _).alloc (Nat.le_refl _) _
  have hp2 : w2.heap[w1.heap.size]? = some (.cells #[.int .i64 3, .int .u64 0, .int .i64 hi, .int .i64 1048576, .int .i64 2] 24 (0, 0)) := by rw [hw]; exact heap_new _ _
  have HBL2 := Lib.hid (HBL1.out.trans (hb.mono HBL1.out.size))
  have Ha2 := Lib.hid (Ha1.out.below hb)
  clear hb hw 
  go_wp2_with fail
  refine (HB.out w2).mono ?_
  rintro e w3 ⟨vb, rfl, hsl, hb⟩
  have HBL3 := Lib.hid (HBL2.out.trans (hb.mono HBL2.out.size))
  have hp3 := (hb.block _ (lt_row hp2)).trans hp2
  have Ha3 := Lib.hid (Ha2.out.below hb)
  clear hb hp2
  have Hb3 := Lib.hid hsl
  clear hsl
  go_wp2_with fail
  obtain ⟨w4, hw⟩ : ∃ x, x = w3.alloc (.cells #[.int .i64 3, .int .u64 0, .int .i64 hi, .int .i64 1048576, .int .i64 2] 24) := ⟨_, rfl⟩
  rw [← hw]
  have hb : Below w3.heap.size w3 w4 := by rw [hw]; exact (Below.refl _ _).alloc (Nat.le_refl _) _
  have hq4 : w4.heap[w3.heap.size]? = some (.cells #[.int .i64 3, .int .u64 0, .int .i64 hi, .int .i64 1048576, .int .i64 2] 24 (0, 0)) := by rw [hw]; exact heap_new _ _
  have HBL4 := Lib.hid (HBL3.out.trans (hb.mono HBL3.out.size))
  have hp4 := (hb.block _ (lt_row hp3)).trans hp3
  have Ha4 := Lib.hid (Ha3.out.below hb)
  have Hb4 := Lib.hid (Hb3.out.below hb)
  clear hb hw hp3
  go_wp2_with fail
  refine (HC.out w4 (HV.out.below HBL4.out)).mono ?_
  rintro e w5 ⟨vc, rfl, hsl, hb⟩
  have HBL5 := Lib.hid (HBL4.out.trans (hb.mono HBL4.out.size))
  have hp5 := (hb.block _ (lt_row hp4)).trans hp4
  have hq5 := (hb.block _ (lt_row hq4)).trans hq4
  have Ha5 := Lib.hid (Ha4.out.below hb)
  have Hb5 := Lib.hid (Hb4.out.below hb)
  clear hb hp4 hq4
  have Hc5 := Lib.hid hsl
  clear hsl
  go_wp2_with fail
  obtain ⟨w6, hw⟩ : ∃ x, x = w5.alloc (.cells #[.int .i64 3, .int .u64 1, .int .i64 3, .int .i64 1048576, .int .i64 2] 24) := ⟨_, rfl⟩
  rw [← hw]
  have hb : Below w5.heap.size w5 w6 := by rw [hw]; exact (Below.refl _ _).alloc (Nat.le_refl _) _
  have hr6 : w6.heap[w5.heap.size]? = some (.cells #[.int .i64 3, .int .u64 1, .int .i64 3, .int .i64 1048576, .int .i64 2] 24 (0, 0)) := by rw [hw]; exact heap_new _ _
  have HBL6 := Lib.hid (HBL5.out.trans (hb.mono HBL5.out.size))
  have hp6 := (hb.block _ (lt_row hp5)).trans hp5
  have hq6 := (hb.block _ (lt_row hq5)).trans hq5
  have Ha6 := Lib.hid (Ha5.out.below hb)
  have Hb6 := Lib.hid (Hb5.out.below hb)
  have Hc6 := Lib.hid (Hc5.out.below hb)
  clear hb hw hp5 hq5
  go_wp2_with fail
  refine (HD.out w6).mono ?_
  rintro e w7 ⟨vd, rfl, hsl, hb⟩
  have HBL7 := Lib.hid (HBL6.out.trans (hb.mono HBL6.out.size))
  have hp7 := (hb.block _ (lt_row hp6)).trans hp6
  have hq7 := (hb.block _ (lt_row hq6)).trans hq6
  have hr7 := (hb.block _ (lt_row hr6)).trans hr6
  have Ha7 := Lib.hid (Ha6.out.below hb)
  have Hb7 := Lib.hid (Hb6.out.below hb)
  have Hc7 := Lib.hid (Hc6.out.below hb)
  clear hb hp6 hq6 hr6
  have Hd7 := Lib.hid hsl
  clear hsl
  go_wp2_with fail
  obtain ⟨w8, hw⟩ : ∃ x, x = w7.alloc (.cells #[.int .i64 3, .int .u64 1, .int .i64 3, .int .i64 1048576, .int .i64 2] 24) := ⟨_, rfl⟩
  rw [← hw]
  have hb : Below w7.heap.size w7 w8 := by rw [hw]; exact (Below.refl _ _).alloc (Nat.le_refl _) _
  have hs8 : w8.heap[w7.heap.size]? = some (.cells #[.int .i64 3, .int .u64 1, .int .i64 3, .int .i64 1048576, .int .i64 2] 24 (0, 0)) := by rw [hw]; exact heap_new _ _
  have HBL8 := Lib.hid (HBL7.out.trans (hb.mono HBL7.out.size))
  have hp8 := (hb.block _ (lt_row hp7)).trans hp7
  have hq8 := (hb.block _ (lt_row hq7)).trans hq7
  have hr8 := (hb.block _ (lt_row hr7)).trans hr7
  have Ha8 := Lib.hid (Ha7.out.below hb)
  have Hb8 := Lib.hid (Hb7.out.below hb)
  have Hc8 := Lib.hid (Hc7.out.below hb)
  have Hd8 := Lib.hid (Hd7.out.below hb)
  clear hb hw hp7 hq7 hr7
  go_wp2_with fail
  refine (HE.out w8 (HV.out.below HBL8.out)).mono ?_
  rintro e w9 ⟨ve, rfl, hsl, hb⟩
  have HBL9 := Lib.hid (HBL8.out.trans (hb.mono HBL8.out.size))
  have hp9 := (hb.block _ (lt_row hp8)).trans hp8
  have hq9 := (hb.block _ (lt_row hq8)).trans hq8
  have hr9 := (hb.block _ (lt_row hr8)).trans hr8
  have hs9 := (hb.block _ (lt_row hs8)).trans hs8
  have Ha9 := Lib.hid (Ha8.out.below hb)
  have Hb9 := Lib.hid (Hb8.out.below hb)
  have Hc9 := Lib.hid (Hc8.out.below hb)
  have Hd9 := Lib.hid (Hd8.out.below hb)
  clear hb hp8 hq8 hr8 hs8
  have He9 := Lib.hid hsl
  clear hsl
  go_wp2_with fail
  obtain ⟨w10, hw⟩ : ∃ x, x = w9.alloc (.cells #[.int .i64 3, .int .u64 0, .int .i64 3, .int .i64 1048576, .int .i64 2] 24) := ⟨_, rfl⟩
  rw [← hw]
  have hb : Below w9.heap.size w9 w10 := by rw [hw]; exact (Below.refl _ _).alloc (Nat.le_refl _) _
  have ht10 : w10.heap[w9.heap.size]? = some (.cells #[.int .i64 3, .int .u64 0, .int .i64 3, .int .i64 1048576, .int .i64 2] 24 (0, 0)) := by rw [hw]; exact heap_new _ _
  have HBL10 := Lib.hid (HBL9.out.trans (hb.mono HBL9.out.size))
  have hp10 := (hb.block _ (lt_row hp9)).trans hp9
  have hq10 := (hb.block _ (lt_row hq9)).trans hq9
  have hr10 := (hb.block _ (lt_row hr9)).trans hr9
  have hs10 := (hb.block _ (lt_row hs9)).trans hs9
  have Ha10 := Lib.hid (Ha9.out.below hb)
  have Hb10 := Lib.hid (Hb9.out.below hb)
  have Hc10 := Lib.hid (Hc9.out.below hb)
  have Hd10 := Lib.hid (Hd9.out.below hb)
  have He10 := Lib.hid (He9.out.below hb)
  clear hb hw hp9 hq9 hr9 hs9
  go_wp2_with fail
  refine (HF.out w10).mono ?_
  rintro e w11 ⟨vf, rfl, hsl, hb⟩
  have HBL11 := Lib.hid (HBL10.out.trans (hb.mono HBL10.out.size))
  have hp11 := (hb.block _ (lt_row hp10)).trans hp10
  have hq11 := (hb.block _ (lt_row hq10)).trans hq10
  have hr11 := (hb.block _ (lt_row hr10)).trans hr10
  have hs11 := (hb.block _ (lt_row hs10)).trans hs10
  have ht11 := (hb.block _ (lt_row ht10)).trans ht10
  have Ha11 := Lib.hid (Ha10.out.below hb)
  have Hb11 := Lib.hid (Hb10.out.below hb)
  have Hc11 := Lib.hid (Hc10.out.below hb)
  have Hd11 := Lib.hid (Hd10.out.below hb)
  have He11 := Lib.hid (He10.out.below hb)
  clear hb hp10 hq10 hr10 hs10 ht10
  have Hf11 := Lib.hid hsl
  clear hsl
  go_wp2_with fail
  obtain ⟨w12, hw⟩ : ∃ x, x = w11.alloc (.cells #[.int .i64 3, .int .u64 0, .int .i64 3, .int .i64 1048576, .int .i64 2] 24) := ⟨_, rfl⟩
  rw [← hw]
  have hb : Below w11.heap.size w11 w12 := by rw [hw]; exact (Below.refl _ _).alloc (Nat.le_refl _) _
  have hu12 : w12.heap[w11.heap.size]? = some (.cells #[.int .i64 3, .int .u64 0, .int .i64 3, .int .i64 1048576, .int .i64 2] 24 (0, 0)) := by rw [hw]; exact heap_new _ _
  have HBL12 := Lib.hid (HBL11.out.trans (hb.mono HBL11.out.size))
  have hp12 := (hb.block _ (lt_row hp11)).trans hp11
  have hq12 := (hb.block _ (lt_row hq11)).trans hq11
  have hr12 := (hb.block _ (lt_row hr11)).trans hr11
  have hs12 := (hb.block _ (lt_row hs11)).trans hs11
  have ht12 := (hb.block _ (lt_row ht11)).trans ht11
  have Ha12 := Lib.hid (Ha11.out.below hb)
  have Hb12 := Lib.hid (Hb11.out.below hb)
  have Hc12 := Lib.hid (Hc11.out.below hb)
  have Hd12 := Lib.hid (Hd11.out.below hb)
  have He12 := Lib.hid (He11.out.below hb)
  have Hf12 := Lib.hid (Hf11.out.below hb)
  clear hb hw hp11 hq11 hr11 hs11 ht11
  go_wp2_with fail
  refine (HLi.out w12 (HV.out.below HBL12.out)).mono ?_
  rintro e w13 ⟨rfl, hb⟩
  have HBL13 := Lib.hid (HBL12.out.trans (hb.mono HBL12.out.size))
  have hp13 := (hb.block _ (lt_row hp12)).trans hp12
  have hq13 := (hb.block _ (lt_row hq12)).trans hq12
  have hr13 := (hb.block _ (lt_row hr12)).trans hr12
  have hs13 := (hb.block _ (lt_row hs12)).trans hs12
  have ht13 := (hb.block _ (lt_row ht12)).trans ht12
  have hu13 := (hb.block _ (lt_row hu12)).trans hu12
  have Ha13 := Lib.hid (Ha12.out.below hb)
  have Hb13 := Lib.hid (Hb12.out.below hb)
  have Hc13 := Lib.hid (Hc12.out.below hb)
  have Hd13 := Lib.hid (Hd12.out.below hb)
  have He13 := Lib.hid (He12.out.below hb)
  have Hf13 := Lib.hid (Hf12.out.below hb)
  clear hb hp12 hq12 hr12 hs12 ht12 hu12
  have hG := WitQ.guardSet
  obtain ⟨cp, fp⟩ := row_facts hp13
  have lp := lt_row hp13
  obtain ⟨cq, fq⟩ := row_facts hq13
  have lq := lt_row hq13
  go_wp2_with fail
  refine (WitQ.Same_ok w13 _ _ L Ha13.out Hb13.out).mono ?_
  rintro e w14 ⟨rfl, hb⟩
  clear cp fp lp cq fq lq
  have HBL14 := Lib.hid (HBL13.out.trans (hb.mono HBL13.out.size))
  have hp14 := (hb.block _ (lt_row hp13)).trans hp13
  have hq14 := (hb.block _ (lt_row hq13)).trans hq13
  have hr14 := (hb.block _ (lt_row hr13)).trans hr13
  have hs14 := (hb.block _ (lt_row hs13)).trans hs13
  have ht14 := (hb.block _ (lt_row ht13)).trans ht13
  have hu14 := (hb.block _ (lt_row hu13)).trans hu13
  have Ha14 := Lib.hid (Ha13.out.below hb)
  have Hb14 := Lib.hid (Hb13.out.below hb)
  have Hc14 := Lib.hid (Hc13.out.below hb)
  have Hd14 := Lib.hid (Hd13.out.below hb)
  have He14 := Lib.hid (He13.out.below hb)
  have Hf14 := Lib.hid (Hf13.out.below hb)
  clear hb hp13 hq13 hr13 hs13 ht13 hu13
  obtain ⟨cr, fr⟩ := row_facts hr14
  have lr := lt_row hr14
  obtain ⟨cs, fs⟩ := row_facts hs14
  have ls := lt_row hs14
  go_wp2_with fail
  refine (WitQ.Same_ok w14 _ _ twoL Hc14.out Hd14.out).mono ?_
  rintro e w15 ⟨rfl, hb⟩
  clear cr fr lr cs fs ls
  have HBL15 := Lib.hid (HBL14.out.trans (hb.mono HBL14.out.size))
  have hp15 := (hb.block _ (lt_row hp14)).trans hp14
  have hq15 := (hb.block _ (lt_row hq14)).trans hq14
  have hr15 := (hb.block _ (lt_row hr14)).trans hr14
  have hs15 := (hb.block _ (lt_row hs14)).trans hs14
  have ht15 := (hb.block _ (lt_row ht14)).trans ht14
  have hu15 := (hb.block _ (lt_row hu14)).trans hu14
  have Ha15 := Lib.hid (Ha14.out.below hb)
  have Hb15 := Lib.hid (Hb14.out.below hb)
  have Hc15 := Lib.hid (Hc14.out.below hb)
  have Hd15 := Lib.hid (Hd14.out.below hb)
  have He15 := Lib.hid (He14.out.below hb)
  have Hf15 := Lib.hid (Hf14.out.below hb)
  clear hb hp14 hq14 hr14 hs14 ht14 hu14
  obtain ⟨ct, ft⟩ := row_facts ht15
  have lt := lt_row ht15
  obtain ⟨cu, fu⟩ := row_facts hu15
  have lu := lt_row hu15
  go_wp2_with fail
  refine (WitQ.Same_ok w15 _ _ turnL He15.out Hf15.out).mono ?_
  rintro e w16 ⟨rfl, hb⟩
  clear ct ft lt cu fu lu
  have HBL16 := Lib.hid (HBL15.out.trans (hb.mono HBL15.out.size))
  have hp16 := (hb.block _ (lt_row hp15)).trans hp15
  have hq16 := (hb.block _ (lt_row hq15)).trans hq15
  have hr16 := (hb.block _ (lt_row hr15)).trans hr15
  have hs16 := (hb.block _ (lt_row hs15)).trans hs15
  have ht16 := (hb.block _ (lt_row ht15)).trans ht15
  have hu16 := (hb.block _ (lt_row hu15)).trans hu15
  have Ha16 := Lib.hid (Ha15.out.below hb)
  have Hb16 := Lib.hid (Hb15.out.below hb)
  have Hc16 := Lib.hid (Hc15.out.below hb)
  have Hd16 := Lib.hid (Hd15.out.below hb)
  have He16 := Lib.hid (He15.out.below hb)
  have Hf16 := Lib.hid (Hf15.out.below hb)
  clear hb hp15 hq15 hr15 hs15 ht15 hu15
  go_wp2
  go_ret
  exact ⟨rfl, HBL16.out⟩

set_option maxRecDepth 100000 in
set_option maxHeartbeats 4000000 in
theorem tells_out (w : World) (n : Int) (hv : VarsE w) (hn : ¬ (1 ≤ n ∧ n ≤ 100)) : Calls Tryz.prog 3 #[.int .i64 n] w (RB (.bool true) w) := by
  have hA := fun w hv => Long_ok w n hv
  have hB := fun w => WitH.Long_ok w n
  simp only [show ¬ (1 ≤ n ∧ n ≤ 100) from hn, if_false] at hA hB
  unfold LongNo at hA hB
  have hC := fun w hv => WitD.Two_ok w hv
  have hD := fun w => WitF.Two_ok w
  have hE := fun w hv => Turn_ok w hv
  have hF := fun w => WitG.Turn_ok w
  unfold ScrPost setV at hC hD hE hF
  have hLi := fun w hv => lives_ok w hv
  have HV := Lib.hid hv
  have HA := Lib.hid hA
  have HB := Lib.hid hB
  have HC := Lib.hid hC
  have HD := Lib.hid hD
  have HE := Lib.hid hE
  have HF := Lib.hid hF
  have HLi := Lib.hid hLi
  clear hA hB hC hD hE hF hLi hv hn
  have HBL0 := Lib.hid (Below.refl w.heap.size w)
  obtain ⟨w0, hw0⟩ : ∃ x, x = w := ⟨_, rfl⟩
  rw [← hw0] at HBL0
  rw [show Calls Tryz.prog 3 #[.int .i64 n] w = Calls Tryz.prog 3 #[.int .i64 n] w0 by rw [hw0]]
  rw [show RB (.bool true) w = RB (.bool true) w0 by rw [hw0]]
  rw [← hw0] at HV
  clear hw0 w
  go_enter Tryz.func3, Tryz.ntmps3
  go_wp2_with fail
  refine (HA.out w0 (HV.out.below HBL0.out)).mono ?_
  rintro e w1 ⟨rfl, hb⟩
  have HBL1 := Lib.hid (HBL0.out.trans (hb.mono HBL0.out.size))
  clear hb 
  go_wp2_with fail
  obtain ⟨w2, hw⟩ : ∃ x, x = w1.alloc (.cells #[.int .i64 0, .int .u64 0, .int .i64 0, .int .i64 0, .int .i64 0] 24) := ⟨_, rfl⟩
  rw [← hw]
  have hb : Below w1.heap.size w1 w2 := by rw [hw]; exact (Below.refl _ _).alloc (Nat.le_refl _) _
  have hp2 : w2.heap[w1.heap.size]? = some (.cells #[.int .i64 0, .int .u64 0, .int .i64 0, .int .i64 0, .int .i64 0] 24 (0, 0)) := by rw [hw]; exact heap_new _ _
  have HBL2 := Lib.hid (HBL1.out.trans (hb.mono HBL1.out.size))
  clear hb hw 
  go_wp2_with fail
  refine (HB.out w2).mono ?_
  rintro e w3 ⟨rfl, hb⟩
  have HBL3 := Lib.hid (HBL2.out.trans (hb.mono HBL2.out.size))
  have hp3 := (hb.block _ (lt_row hp2)).trans hp2
  clear hb hp2
  go_wp2_with fail
  obtain ⟨w4, hw⟩ : ∃ x, x = w3.alloc (.cells #[.int .i64 0, .int .u64 0, .int .i64 0, .int .i64 0, .int .i64 0] 24) := ⟨_, rfl⟩
  rw [← hw]
  have hb : Below w3.heap.size w3 w4 := by rw [hw]; exact (Below.refl _ _).alloc (Nat.le_refl _) _
  have hq4 : w4.heap[w3.heap.size]? = some (.cells #[.int .i64 0, .int .u64 0, .int .i64 0, .int .i64 0, .int .i64 0] 24 (0, 0)) := by rw [hw]; exact heap_new _ _
  have HBL4 := Lib.hid (HBL3.out.trans (hb.mono HBL3.out.size))
  have hp4 := (hb.block _ (lt_row hp3)).trans hp3
  clear hb hw hp3
  go_wp2_with fail
  refine (HC.out w4 (HV.out.below HBL4.out)).mono ?_
  rintro e w5 ⟨vc, rfl, hsl, hb⟩
  have HBL5 := Lib.hid (HBL4.out.trans (hb.mono HBL4.out.size))
  have hp5 := (hb.block _ (lt_row hp4)).trans hp4
  have hq5 := (hb.block _ (lt_row hq4)).trans hq4
  clear hb hp4 hq4
  have Hc5 := Lib.hid hsl
  clear hsl
  go_wp2_with fail
  obtain ⟨w6, hw⟩ : ∃ x, x = w5.alloc (.cells #[.int .i64 3, .int .u64 1, .int .i64 3, .int .i64 1048576, .int .i64 2] 24) := ⟨_, rfl⟩
  rw [← hw]
  have hb : Below w5.heap.size w5 w6 := by rw [hw]; exact (Below.refl _ _).alloc (Nat.le_refl _) _
  have hr6 : w6.heap[w5.heap.size]? = some (.cells #[.int .i64 3, .int .u64 1, .int .i64 3, .int .i64 1048576, .int .i64 2] 24 (0, 0)) := by rw [hw]; exact heap_new _ _
  have HBL6 := Lib.hid (HBL5.out.trans (hb.mono HBL5.out.size))
  have hp6 := (hb.block _ (lt_row hp5)).trans hp5
  have hq6 := (hb.block _ (lt_row hq5)).trans hq5
  have Hc6 := Lib.hid (Hc5.out.below hb)
  clear hb hw hp5 hq5
  go_wp2_with fail
  refine (HD.out w6).mono ?_
  rintro e w7 ⟨vd, rfl, hsl, hb⟩
  have HBL7 := Lib.hid (HBL6.out.trans (hb.mono HBL6.out.size))
  have hp7 := (hb.block _ (lt_row hp6)).trans hp6
  have hq7 := (hb.block _ (lt_row hq6)).trans hq6
  have hr7 := (hb.block _ (lt_row hr6)).trans hr6
  have Hc7 := Lib.hid (Hc6.out.below hb)
  clear hb hp6 hq6 hr6
  have Hd7 := Lib.hid hsl
  clear hsl
  go_wp2_with fail
  obtain ⟨w8, hw⟩ : ∃ x, x = w7.alloc (.cells #[.int .i64 3, .int .u64 1, .int .i64 3, .int .i64 1048576, .int .i64 2] 24) := ⟨_, rfl⟩
  rw [← hw]
  have hb : Below w7.heap.size w7 w8 := by rw [hw]; exact (Below.refl _ _).alloc (Nat.le_refl _) _
  have hs8 : w8.heap[w7.heap.size]? = some (.cells #[.int .i64 3, .int .u64 1, .int .i64 3, .int .i64 1048576, .int .i64 2] 24 (0, 0)) := by rw [hw]; exact heap_new _ _
  have HBL8 := Lib.hid (HBL7.out.trans (hb.mono HBL7.out.size))
  have hp8 := (hb.block _ (lt_row hp7)).trans hp7
  have hq8 := (hb.block _ (lt_row hq7)).trans hq7
  have hr8 := (hb.block _ (lt_row hr7)).trans hr7
  have Hc8 := Lib.hid (Hc7.out.below hb)
  have Hd8 := Lib.hid (Hd7.out.below hb)
  clear hb hw hp7 hq7 hr7
  go_wp2_with fail
  refine (HE.out w8 (HV.out.below HBL8.out)).mono ?_
  rintro e w9 ⟨ve, rfl, hsl, hb⟩
  have HBL9 := Lib.hid (HBL8.out.trans (hb.mono HBL8.out.size))
  have hp9 := (hb.block _ (lt_row hp8)).trans hp8
  have hq9 := (hb.block _ (lt_row hq8)).trans hq8
  have hr9 := (hb.block _ (lt_row hr8)).trans hr8
  have hs9 := (hb.block _ (lt_row hs8)).trans hs8
  have Hc9 := Lib.hid (Hc8.out.below hb)
  have Hd9 := Lib.hid (Hd8.out.below hb)
  clear hb hp8 hq8 hr8 hs8
  have He9 := Lib.hid hsl
  clear hsl
  go_wp2_with fail
  obtain ⟨w10, hw⟩ : ∃ x, x = w9.alloc (.cells #[.int .i64 3, .int .u64 0, .int .i64 3, .int .i64 1048576, .int .i64 2] 24) := ⟨_, rfl⟩
  rw [← hw]
  have hb : Below w9.heap.size w9 w10 := by rw [hw]; exact (Below.refl _ _).alloc (Nat.le_refl _) _
  have ht10 : w10.heap[w9.heap.size]? = some (.cells #[.int .i64 3, .int .u64 0, .int .i64 3, .int .i64 1048576, .int .i64 2] 24 (0, 0)) := by rw [hw]; exact heap_new _ _
  have HBL10 := Lib.hid (HBL9.out.trans (hb.mono HBL9.out.size))
  have hp10 := (hb.block _ (lt_row hp9)).trans hp9
  have hq10 := (hb.block _ (lt_row hq9)).trans hq9
  have hr10 := (hb.block _ (lt_row hr9)).trans hr9
  have hs10 := (hb.block _ (lt_row hs9)).trans hs9
  have Hc10 := Lib.hid (Hc9.out.below hb)
  have Hd10 := Lib.hid (Hd9.out.below hb)
  have He10 := Lib.hid (He9.out.below hb)
  clear hb hw hp9 hq9 hr9 hs9
  go_wp2_with fail
  refine (HF.out w10).mono ?_
  rintro e w11 ⟨vf, rfl, hsl, hb⟩
  have HBL11 := Lib.hid (HBL10.out.trans (hb.mono HBL10.out.size))
  have hp11 := (hb.block _ (lt_row hp10)).trans hp10
  have hq11 := (hb.block _ (lt_row hq10)).trans hq10
  have hr11 := (hb.block _ (lt_row hr10)).trans hr10
  have hs11 := (hb.block _ (lt_row hs10)).trans hs10
  have ht11 := (hb.block _ (lt_row ht10)).trans ht10
  have Hc11 := Lib.hid (Hc10.out.below hb)
  have Hd11 := Lib.hid (Hd10.out.below hb)
  have He11 := Lib.hid (He10.out.below hb)
  clear hb hp10 hq10 hr10 hs10 ht10
  have Hf11 := Lib.hid hsl
  clear hsl
  go_wp2_with fail
  obtain ⟨w12, hw⟩ : ∃ x, x = w11.alloc (.cells #[.int .i64 3, .int .u64 0, .int .i64 3, .int .i64 1048576, .int .i64 2] 24) := ⟨_, rfl⟩
  rw [← hw]
  have hb : Below w11.heap.size w11 w12 := by rw [hw]; exact (Below.refl _ _).alloc (Nat.le_refl _) _
  have hu12 : w12.heap[w11.heap.size]? = some (.cells #[.int .i64 3, .int .u64 0, .int .i64 3, .int .i64 1048576, .int .i64 2] 24 (0, 0)) := by rw [hw]; exact heap_new _ _
  have HBL12 := Lib.hid (HBL11.out.trans (hb.mono HBL11.out.size))
  have hp12 := (hb.block _ (lt_row hp11)).trans hp11
  have hq12 := (hb.block _ (lt_row hq11)).trans hq11
  have hr12 := (hb.block _ (lt_row hr11)).trans hr11
  have hs12 := (hb.block _ (lt_row hs11)).trans hs11
  have ht12 := (hb.block _ (lt_row ht11)).trans ht11
  have Hc12 := Lib.hid (Hc11.out.below hb)
  have Hd12 := Lib.hid (Hd11.out.below hb)
  have He12 := Lib.hid (He11.out.below hb)
  have Hf12 := Lib.hid (Hf11.out.below hb)
  clear hb hw hp11 hq11 hr11 hs11 ht11
  go_wp2_with fail
  refine (HLi.out w12 (HV.out.below HBL12.out)).mono ?_
  rintro e w13 ⟨rfl, hb⟩
  have HBL13 := Lib.hid (HBL12.out.trans (hb.mono HBL12.out.size))
  have hp13 := (hb.block _ (lt_row hp12)).trans hp12
  have hq13 := (hb.block _ (lt_row hq12)).trans hq12
  have hr13 := (hb.block _ (lt_row hr12)).trans hr12
  have hs13 := (hb.block _ (lt_row hs12)).trans hs12
  have ht13 := (hb.block _ (lt_row ht12)).trans ht12
  have hu13 := (hb.block _ (lt_row hu12)).trans hu12
  have Hc13 := Lib.hid (Hc12.out.below hb)
  have Hd13 := Lib.hid (Hd12.out.below hb)
  have He13 := Lib.hid (He12.out.below hb)
  have Hf13 := Lib.hid (Hf12.out.below hb)
  clear hb hp12 hq12 hr12 hs12 ht12 hu12
  have hG := WitQ.guardSet
  obtain ⟨cp, fp⟩ := row_facts hp13
  have lp := lt_row hp13
  obtain ⟨cq, fq⟩ := row_facts hq13
  have lq := lt_row hq13
  go_wp2_with fail
  refine (WitQ.Same_ok w13 _ _ [] (Sl.nil _ _) (Sl.nil _ _)).mono ?_
  rintro e w14 ⟨rfl, hb⟩
  clear cp fp lp cq fq lq
  have HBL14 := Lib.hid (HBL13.out.trans (hb.mono HBL13.out.size))
  have hp14 := (hb.block _ (lt_row hp13)).trans hp13
  have hq14 := (hb.block _ (lt_row hq13)).trans hq13
  have hr14 := (hb.block _ (lt_row hr13)).trans hr13
  have hs14 := (hb.block _ (lt_row hs13)).trans hs13
  have ht14 := (hb.block _ (lt_row ht13)).trans ht13
  have hu14 := (hb.block _ (lt_row hu13)).trans hu13
  have Hc14 := Lib.hid (Hc13.out.below hb)
  have Hd14 := Lib.hid (Hd13.out.below hb)
  have He14 := Lib.hid (He13.out.below hb)
  have Hf14 := Lib.hid (Hf13.out.below hb)
  clear hb hp13 hq13 hr13 hs13 ht13 hu13
  obtain ⟨cr, fr⟩ := row_facts hr14
  have lr := lt_row hr14
  obtain ⟨cs, fs⟩ := row_facts hs14
  have ls := lt_row hs14
  go_wp2_with fail
  refine (WitQ.Same_ok w14 _ _ twoL Hc14.out Hd14.out).mono ?_
  rintro e w15 ⟨rfl, hb⟩
  clear cr fr lr cs fs ls
  have HBL15 := Lib.hid (HBL14.out.trans (hb.mono HBL14.out.size))
  have hp15 := (hb.block _ (lt_row hp14)).trans hp14
  have hq15 := (hb.block _ (lt_row hq14)).trans hq14
  have hr15 := (hb.block _ (lt_row hr14)).trans hr14
  have hs15 := (hb.block _ (lt_row hs14)).trans hs14
  have ht15 := (hb.block _ (lt_row ht14)).trans ht14
  have hu15 := (hb.block _ (lt_row hu14)).trans hu14
  have Hc15 := Lib.hid (Hc14.out.below hb)
  have Hd15 := Lib.hid (Hd14.out.below hb)
  have He15 := Lib.hid (He14.out.below hb)
  have Hf15 := Lib.hid (Hf14.out.below hb)
  clear hb hp14 hq14 hr14 hs14 ht14 hu14
  obtain ⟨ct, ft⟩ := row_facts ht15
  have lt := lt_row ht15
  obtain ⟨cu, fu⟩ := row_facts hu15
  have lu := lt_row hu15
  go_wp2_with fail
  refine (WitQ.Same_ok w15 _ _ turnL He15.out Hf15.out).mono ?_
  rintro e w16 ⟨rfl, hb⟩
  clear ct ft lt cu fu lu
  have HBL16 := Lib.hid (HBL15.out.trans (hb.mono HBL15.out.size))
  have hp16 := (hb.block _ (lt_row hp15)).trans hp15
  have hq16 := (hb.block _ (lt_row hq15)).trans hq15
  have hr16 := (hb.block _ (lt_row hr15)).trans hr15
  have hs16 := (hb.block _ (lt_row hs15)).trans hs15
  have ht16 := (hb.block _ (lt_row ht15)).trans ht15
  have hu16 := (hb.block _ (lt_row hu15)).trans hu15
  have Hc16 := Lib.hid (Hc15.out.below hb)
  have Hd16 := Lib.hid (Hd15.out.below hb)
  have He16 := Lib.hid (He15.out.below hb)
  have Hf16 := Lib.hid (Hf15.out.below hb)
  clear hb hp15 hq15 hr15 hs15 ht15 hu15
  go_wp2
  go_ret
  exact ⟨rfl, HBL16.out⟩

theorem tells_ok (w : World) (n : Int) (hv : VarsE w) : Calls Tryz.prog 3 #[.int .i64 n] w (RB (.bool true) w) := by
  by_cases hn : 1 ≤ n ∧ n ≤ 100
  · exact tells_in w n hv hn
  · exact tells_out w n hv hn

end Go.Proofs.YtjiakfblgefioaaGreatDoor.WitW
