/-
  WHAT IS PROVED: what the document's scripts are. Condition: none.
-/
import Derived.Test.YtjiakfblgefioaaGreatDoorWitE
import Derived.Test.YtjiakfblgefioaaGreatDoorWitR
namespace Go.Proofs.YtjiakfblgefioaaGreatDoor.WitF
open Go Go.RowKit Go.Shelf Go.Proofs.YtjiakfblgefioaaGreatDoor Go.Proofs.YtjiakfblgefioaaGreatDoor.OctetS Go.Proofs.YtjiakfblgefioaaGreatDoor.IdentS Go.Proofs.YtjiakfblgefioaaGreatDoor.EventS Go.Proofs.YtjiakfblgefioaaGreatDoor.EntS Go.Proofs.YtjiakfblgefioaaGreatDoor.OctP Go.Proofs.YtjiakfblgefioaaGreatDoor.OctQ Go.Proofs.YtjiakfblgefioaaGreatDoor.IdentP Go.Proofs.YtjiakfblgefioaaGreatDoor.IdentR Go.Proofs.YtjiakfblgefioaaGreatDoor.EventP Go.Proofs.YtjiakfblgefioaaGreatDoor.EventC Go.Proofs.YtjiakfblgefioaaGreatDoor.EventB Go.Proofs.YtjiakfblgefioaaGreatDoor.RowsX Go.Proofs.YtjiakfblgefioaaGreatDoor.WitS Go.Proofs.YtjiakfblgefioaaGreatDoor.WitD Go.Proofs.YtjiakfblgefioaaGreatDoor.WitE Go.Proofs.YtjiakfblgefioaaGreatDoor.RedA Go.Proofs.YtjiakfblgefioaaGreatDoor.EntP
set_option linter.unusedVariables false
set_option linter.unusedSimpArgs false

theorem refText (w : World) (ev : ByteArray) (he : ev.size ≤ maxLen) : ∃ y : Int, ∀ w, Calls Tryz.prog 30 #[.agg #[.string roomT, .int .i64 0, .int .i64 0, .int .u8 0, .int .u8 0, .int .u8 0, .int .u8 0, .int .u8 0, .int .u8 0, .int .u8 0, .int .u8 0, .int .u8 0, .int .u8 0, .int .u8 0, .int .u8 0, .int .u8 0, .int .u8 0, .int .u8 0, .int .u8 0, .int .u8 0, .int .u8 0, .int .u8 0, .int .u8 0, .int .u8 0, .int .u8 0, .int .u8 0, .int .u8 0, .int .u8 0, .int .u8 0, .int .u8 0, .int .u8 0, .int .u8 0, .int .u8 0, .int .u8 0, .int .u8 0, .string ev, .string ⟨#[]⟩]] w (RB (.tuple #[.string (lieT ev), .int .i64 y]) w) := by
  refine ⟨whyOf (EntS.checkB (entOf roomT 0 0 (List.replicate 32 0) ev ⟨#[]⟩)), fun w => ?_⟩
  exact EntR.Text_ok w _ roomT 0 0 (List.replicate 32 0) ev ⟨#[]⟩ ⟨by kernel_rfl, by simp⟩ (by decide +kernel) he (by decide +kernel)

theorem dd_one (l : List Dd) : ∀ v ∈ ddV l, v.oneCell' = true := by
  intro v hv
  obtain ⟨x, _, hx⟩ := List.mem_flatMap.1 hv
  exact ddF.one x v hx

set_option maxRecDepth 100000 in
set_option maxHeartbeats 4000000 in
theorem Two_ok (w : World) : Calls Tryz.prog 8 #[] w (ScrPost (setV 1 3) twoL w) := by
  have hN := fun w => WitR.nth_ok w 1
  have hT := fun w => WitR.bytes_ok w 1 ⟨#[]⟩ ⟨#[]⟩ 1 (by omega) (by omega) (by decide +kernel) (by decide +kernel)
  obtain ⟨y1, hL1⟩ := refText w (nthT 1) (by have := nthT_size 1; unfold maxLen; omega)
  obtain ⟨y2, hL2⟩ := refText w (tx 1 ⟨#[]⟩ ⟨#[]⟩ 1) (by have := tx_size 1 ⟨#[]⟩ ⟨#[]⟩ 1; unfold maxLen; omega)
  have hS := fun w => WitR.setup_ok w 1 3
  have hD := fun w i => WitR.deliver_ok w i
  unfold setV at hS
  obtain ⟨n1, hn1⟩ : ∃ x, x = nthT 1 := ⟨_, rfl⟩
  obtain ⟨t1, ht1⟩ : ∃ x, x = tx 1 ⟨#[]⟩ ⟨#[]⟩ 1 := ⟨_, rfl⟩
  obtain ⟨l1, hl1⟩ : ∃ x, x = lieT n1 := ⟨_, rfl⟩
  obtain ⟨l2, hl2⟩ : ∃ x, x = lieT t1 := ⟨_, rfl⟩
  have hcs : (#[.int .u8 10, .int .i64 0, .int .i64 1, .string l1, .int .u8 0, .int .u8 10, .int .i64 0, .int .i64 2, .string l2, .int .u8 0, .int .u8 6, .int .i64 0, .int .i64 0, .string ⟨#[]⟩, .int .u8 0, .int .u8 6, .int .i64 0, .int .i64 0, .string ⟨#[]⟩, .int .u8 0, .int .u8 3, .int .i64 1, .int .i64 0, .string ⟨#[]⟩, .int .u8 0, .int .u8 6, .int .i64 0, .int .i64 1, .string ⟨#[]⟩, .int .u8 0, .int .u8 6, .int .i64 0, .int .i64 2, .string ⟨#[]⟩, .int .u8 0] : Array Value).toList = ddV twoL := by
    rw [hl1, hl2, hn1, ht1]
    rfl
  rw [← hn1] at hN hL1
  rw [← hl1] at hL1
  rw [← ht1] at hT hL2
  rw [← hl2] at hL2
  have HN := Lib.hid hN
  have HT := Lib.hid hT
  have HL1 := Lib.hid hL1
  have HL2 := Lib.hid hL2
  have HS := Lib.hid hS
  have HD := Lib.hid hD
  obtain ⟨w0, hw0⟩ : ∃ w0, w0 = w.alloc (.cells #[.int .i64 0, .int .u64 0, .int .i64 0, .int .i64 0, .int .i64 0] 24) := ⟨_, rfl⟩
  have hb0 : Below w.heap.size w w0 := by rw [hw0]; exact ((Below.refl _ w).alloc (Nat.le_refl _) _)
  have hx0 : w0.heap[w.heap.size]? = some (.cells #[.int .i64 0, .int .u64 0, .int .i64 0, .int .i64 0, .int .i64 0] 24 (0, 0)) := by rw [hw0]; exact heap_new _ _
  have HBL0 := Lib.hid hb0
  have HW0 := Lib.hid hw0
  have lx0 := lt_row hx0
  obtain ⟨cx0, fx0⟩ := row_facts hx0
  have HCS := Lib.hid hcs
  clear hN hT hL1 hL2 hS hD hn1 ht1 hl1 hl2 hcs hb0 hw0
  go_enter Tryz.func8, Tryz.ntmps8
  go_wp2_with fail
  rw [← HW0.out]
  refine (HN.out w0).mono ?_
  rintro e w1 ⟨rfl, hb⟩
  have HBL1 := Lib.hid (HBL0.out.trans (hb.mono HBL0.out.size))
  have hx1 := (hb.block _ lx0).trans hx0
  have lx1 := lt_row hx1
  obtain ⟨cx1, fx1⟩ := row_facts hx1
  clear hb hx0 cx0 fx0
  go_wp2_with fail
  refine (HL1.out w1).mono ?_
  rintro e w2 ⟨rfl, hb⟩
  have HBL2 := Lib.hid (HBL1.out.trans (hb.mono HBL1.out.size))
  have hx2 := (hb.block _ lx1).trans hx1
  have lx2 := lt_row hx2
  obtain ⟨cx2, fx2⟩ := row_facts hx2
  clear hb hx1 cx1 fx1
  go_wp2_with fail
  refine (HT.out w2).mono ?_
  rintro e w3 ⟨rfl, hb⟩
  have HBL3 := Lib.hid (HBL2.out.trans (hb.mono HBL2.out.size))
  have hx3 := (hb.block _ lx2).trans hx2
  have lx3 := lt_row hx3
  obtain ⟨cx3, fx3⟩ := row_facts hx3
  clear hb hx2 cx2 fx2
  go_wp2_with fail
  refine (HL2.out w3).mono ?_
  rintro e w4 ⟨rfl, hb⟩
  have HBL4 := Lib.hid (HBL3.out.trans (hb.mono HBL3.out.size))
  have hx4 := (hb.block _ lx3).trans hx3
  have lx4 := lt_row hx4
  obtain ⟨cx4, fx4⟩ := row_facts hx4
  clear hb hx3 cx3 fx3
  go_wp2_with fail
  refine (HS.out w4).mono ?_
  rintro e w5 ⟨rfl, hb⟩
  have HBL5 := Lib.hid (HBL4.out.trans (hb.mono HBL4.out.size))
  have hx5 := (hb.block _ lx4).trans hx4
  have lx5 := lt_row hx5
  obtain ⟨cx5, fx5⟩ := row_facts hx5
  clear hb hx4 cx4 fx4
  go_wp2_with fail
  refine (HD.out w5 0).mono ?_
  rintro e w6 ⟨rfl, hb⟩
  have HBL6 := Lib.hid (HBL5.out.trans (hb.mono HBL5.out.size))
  have hx6 := (hb.block _ lx5).trans hx5
  have lx6 := lt_row hx6
  obtain ⟨cx6, fx6⟩ := row_facts hx6
  clear hb hx5 cx5 fx5
  go_wp2_with fail
  refine (HD.out w6 0).mono ?_
  rintro e w7 ⟨rfl, hb⟩
  have HBL7 := Lib.hid (HBL6.out.trans (hb.mono HBL6.out.size))
  have hx7 := (hb.block _ lx6).trans hx6
  have lx7 := lt_row hx7
  obtain ⟨cx7, fx7⟩ := row_facts hx7
  clear hb hx6 cx6 fx6
  go_wp2_with fail
  refine (HD.out w7 1).mono ?_
  rintro e w8 ⟨rfl, hb⟩
  have HBL8 := Lib.hid (HBL7.out.trans (hb.mono HBL7.out.size))
  have hx8 := (hb.block _ lx7).trans hx7
  have lx8 := lt_row hx8
  obtain ⟨cx8, fx8⟩ := row_facts hx8
  clear hb hx7 cx7 fx7
  go_wp2_with fail
  refine (HD.out w8 2).mono ?_
  rintro e w9 ⟨rfl, hb⟩
  have HBL9 := Lib.hid (HBL8.out.trans (hb.mono HBL8.out.size))
  have hx9 := (hb.block _ lx8).trans hx8
  have lx9 := lt_row hx9
  obtain ⟨cx9, fx9⟩ := row_facts hx9
  clear hb hx8 cx8 fx8
  go_wp2
  obtain ⟨wf, hwf⟩ : ∃ wf, wf = (Sets.set5 w9 w.heap.size (.int .i64 3) (.int .u64 1) (.int .i64 3) (.int .i64 1048576) (.int .i64 2)).alloc (.cells #[.int .u8 10, .int .i64 0, .int .i64 1, .string l1, .int .u8 0, .int .u8 10, .int .i64 0, .int .i64 2, .string l2, .int .u8 0, .int .u8 6, .int .i64 0, .int .i64 0, .string ⟨#[]⟩, .int .u8 0, .int .u8 6, .int .i64 0, .int .i64 0, .string ⟨#[]⟩, .int .u8 0, .int .u8 3, .int .i64 1, .int .i64 0, .string ⟨#[]⟩, .int .u8 0, .int .u8 6, .int .i64 0, .int .i64 1, .string ⟨#[]⟩, .int .u8 0, .int .u8 6, .int .i64 0, .int .i64 2, .string ⟨#[]⟩, .int .u8 0] 49) := ⟨_, rfl⟩
  have hxf : wf.heap[w.heap.size]? = some (.cells #[.int .i64 3, .int .u64 1, .int .i64 3, .int .i64 1048576, .int .i64 2] 24 (0, 0)) := by rw [hwf]; exact heap_at (Sets.set5_row hx9 ..) _
  have hyf : wf.heap[w9.heap.size]? = some (.cells #[.int .u8 10, .int .i64 0, .int .i64 1, .string l1, .int .u8 0, .int .u8 10, .int .i64 0, .int .i64 2, .string l2, .int .u8 0, .int .u8 6, .int .i64 0, .int .i64 0, .string ⟨#[]⟩, .int .u8 0, .int .u8 6, .int .i64 0, .int .i64 0, .string ⟨#[]⟩, .int .u8 0, .int .u8 3, .int .i64 1, .int .i64 0, .string ⟨#[]⟩, .int .u8 0, .int .u8 6, .int .i64 0, .int .i64 1, .string ⟨#[]⟩, .int .u8 0, .int .u8 6, .int .i64 0, .int .i64 2, .string ⟨#[]⟩, .int .u8 0] 49 (0, 0)) := by rw [hwf]; exact heap_new' _ (Sets.set5_size ..).symm
  have hbf : Below w.heap.size w wf := by rw [hwf]; exact Bl.new (Sets.set5_below HBL9.out (Nat.le_refl _) ..) _
  change bodyPost _ _ _ _ _ ((Sets.set5 w9 w.heap.size (.int .i64 3) (.int .u64 1) (.int .i64 3) (.int .i64 1048576) (.int .i64 2)).alloc (.cells #[.int .u8 10, .int .i64 0, .int .i64 1, .string l1, .int .u8 0, .int .u8 10, .int .i64 0, .int .i64 2, .string l2, .int .u8 0, .int .u8 6, .int .i64 0, .int .i64 0, .string ⟨#[]⟩, .int .u8 0, .int .u8 6, .int .i64 0, .int .i64 0, .string ⟨#[]⟩, .int .u8 0, .int .u8 3, .int .i64 1, .int .i64 0, .string ⟨#[]⟩, .int .u8 0, .int .u8 6, .int .i64 0, .int .i64 1, .string ⟨#[]⟩, .int .u8 0, .int .u8 6, .int .i64 0, .int .i64 2, .string ⟨#[]⟩, .int .u8 0] 49))
  rw [← hwf]
  refine bodyPost_ret (v := .tuple #[setV 1 3, .slice (some ⟨w9.heap.size, 0, none⟩) 7 7]) (results_cell_slot rfl _ _ w.heap.size 24 #[.int .i64 3, .int .u64 1, .int .i64 3, .int .i64 1048576, .int .i64 2] (0, 0) _ rfl hxf Tryz.underlying24 rfl setI rfl) rfl ?_
  exact ⟨_, rfl, deeds_sl hyf HCS.out (by decide), hbf⟩


end Go.Proofs.YtjiakfblgefioaaGreatDoor.WitF
