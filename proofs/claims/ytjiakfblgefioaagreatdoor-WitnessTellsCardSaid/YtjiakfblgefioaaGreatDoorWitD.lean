/-
  WHAT IS PROVED: what the scripts' functions answer. Condition: the variables hold what 'VarsE' says.
-/
import Derived.Test.YtjiakfblgefioaaGreatDoorWitC
import Derived.Test.YtjiakfblgefioaaGreatDoorWitA
import Derived.Test.YtjiakfblgefioaaGreatDoorWitL
import Derived.Test.YtjiakfblgefioaaGreatDoorRed
import Derived.Test.YtjiakfblgefioaaGreatDoorSets
namespace Go.Proofs.YtjiakfblgefioaaGreatDoor.WitD
open Go Go.RowKit Go.Shelf Go.Proofs.YtjiakfblgefioaaGreatDoor Go.Proofs.YtjiakfblgefioaaGreatDoor.OctetS Go.Proofs.YtjiakfblgefioaaGreatDoor.IdentS Go.Proofs.YtjiakfblgefioaaGreatDoor.EventS Go.Proofs.YtjiakfblgefioaaGreatDoor.EntS Go.Proofs.YtjiakfblgefioaaGreatDoor.OctP Go.Proofs.YtjiakfblgefioaaGreatDoor.OctQ Go.Proofs.YtjiakfblgefioaaGreatDoor.IdentP Go.Proofs.YtjiakfblgefioaaGreatDoor.IdentR Go.Proofs.YtjiakfblgefioaaGreatDoor.EventP Go.Proofs.YtjiakfblgefioaaGreatDoor.EventC Go.Proofs.YtjiakfblgefioaaGreatDoor.EventB Go.Proofs.YtjiakfblgefioaaGreatDoor.EntP Go.Proofs.YtjiakfblgefioaaGreatDoor.RowsX Go.Proofs.YtjiakfblgefioaaGreatDoor.WitS Go.Proofs.YtjiakfblgefioaaGreatDoor.WitA Go.Proofs.YtjiakfblgefioaaGreatDoor.WitB Go.Proofs.YtjiakfblgefioaaGreatDoor.WitC Go.Proofs.YtjiakfblgefioaaGreatDoor.WitL Go.Proofs.YtjiakfblgefioaaGreatDoor.RedA
set_option linter.unusedVariables false
set_option linter.unusedSimpArgs false

/-- What a script's function returns: the setup, and the deeds. -/
def ScrPost (sv : Value) (L : List Dd) (w : World) (e : Ending) (w' : World) : Prop := ∃ v', e = .returned (.tuple #[sv, v']) ∧ Sl w' v' 5 L.length (ddV L) ∧ Below w.heap.size w w'
def LongPost (n : Int) (L : List Dd) (w : World) (e : Ending) (w' : World) : Prop := ∃ v', e = .returned (.tuple #[setV 0 (high n), v', .int .i64 0]) ∧ Sl w' v' 5 L.length (ddV L) ∧ Below w.heap.size w w'
def LongNo (w : World) (e : Ending) (w' : World) : Prop := e = .returned (.tuple #[.agg #[.int .i64 0, .int .u64 0, .int .i64 0, .int .i64 0, .int .i64 0], .slice none 0 0, .int .i64 1]) ∧ Below w.heap.size w w'
theorem deeds_sl {w : World} {b : Nat} {cs : Array Value} {L : List Dd} (h : w.heap[b]? = some (.cells cs 49 (0, 0))) (hcs : cs.toList = ddV L) (hl : L.length ≤ 1000) : Sl w (.slice (some ⟨b, 0, none⟩) L.length L.length) 5 L.length (ddV L) := by
  refine ⟨ddF.total L, .inr ⟨_, _, rfl, Nat.le_refl _, by unfold maxLen; omega, fun j u hu => ?_⟩⟩
  rw [Addr.add_mid, Nat.zero_add, cell_row h, ← hu, ← hcs]
  simp
theorem setI : (Tryz.prog.info? 24).map (·.size) = some 5 := by kernel_rfl
set_option maxRecDepth 100000 in
set_option maxHeartbeats 4000000 in
theorem Two_ok (w : World) (hv : VarsE w) : Calls Tryz.prog 7 #[] w (ScrPost (setV 1 3) twoL w) := by
  have hN := fun w hv => nth_ok w 1 hv
  have hT := fun w hv => text_ok w ⟨#[]⟩ ⟨#[]⟩ 1 ⟨#[]⟩ ⟨#[]⟩ 1 hv (by decide +kernel) (by decide +kernel)
  have hL1 := fun w hv => lie_ok w 1 (nthT 1) hv (by have := nthT_size 1; unfold maxLen; omega)
  have hL2 := fun w hv => lie_ok w 2 (tx 1 ⟨#[]⟩ ⟨#[]⟩ 1) hv (by have := tx_size 1 ⟨#[]⟩ ⟨#[]⟩ 1; unfold maxLen; omega)
  have hS := fun w => setup_ok w 1 3
  unfold evV at hT
  unfold setV at hS
  obtain ⟨n1, hn1⟩ : ∃ x, x = nthT 1 := ⟨_, rfl⟩
  obtain ⟨t1, ht1⟩ : ∃ x, x = tx 1 ⟨#[]⟩ ⟨#[]⟩ 1 := ⟨_, rfl⟩
  obtain ⟨l1, hl1⟩ : ∃ x, x = lieT n1 := ⟨_, rfl⟩
  obtain ⟨l2, hl2⟩ : ∃ x, x = lieT t1 := ⟨_, rfl⟩
  have hcs : (#[.int .u8 10, .int .i64 0, .int .i64 1, .string l1, .int .u8 0, .int .u8 10, .int .i64 0, .int .i64 2, .string l2, .int .u8 0, .int .u8 6, .int .i64 0, .int .i64 0, .string ⟨#[]⟩, .int .u8 0, .int .u8 6, .int .i64 0, .int .i64 0, .string ⟨#[]⟩, .int .u8 0, .int .u8 3, .int .i64 1, .int .i64 0, .string ⟨#[]⟩, .int .u8 0, .int .u8 6, .int .i64 0, .int .i64 1, .string ⟨#[]⟩, .int .u8 0, .int .u8 6, .int .i64 0, .int .i64 2, .string ⟨#[]⟩, .int .u8 0] : Array Value).toList = ddV twoL := by
    rw [hl1, hl2, hn1, ht1]
    rfl
  rw [← hn1] at hN hL1
  rw [← hl1] at hL1
  rw [← ht1] at hT hL2
  rw [← hl2] at hL2
  have HN := Lib.hid hN
  have HT := Lib.hid hT
  have HL1 := Lib.hid hL1
  have HL2 := Lib.hid hL2
  have HS := Lib.hid hS
  obtain ⟨w0, hw0⟩ : ∃ w0, w0 = w.alloc (.cells #[.int .i64 0, .int .u64 0, .int .i64 0, .int .i64 0, .int .i64 0] 24) := ⟨_, rfl⟩
  have hb0 : Below w.heap.size w w0 := by rw [hw0]; exact ((Below.refl _ w).alloc (Nat.le_refl _) _)
  have hx0 : w0.heap[w.heap.size]? = some (.cells #[.int .i64 0, .int .u64 0, .int .i64 0, .int .i64 0, .int .i64 0] 24 (0, 0)) := by rw [hw0]; exact heap_new _ _
  have HBL0 := Lib.hid hb0
  have HW0 := Lib.hid hw0
  have lx0 := lt_row hx0
  obtain ⟨cx0, fx0⟩ := row_facts hx0
  have HV0 := Lib.hid (hv.below hb0)
  have HCS := Lib.hid hcs
  clear hN hT hL1 hL2 hS hn1 ht1 hl1 hl2 hcs hv hb0 hw0
  go_enter Tryz.func7, Tryz.ntmps7
  go_wp2_with fail
  rw [← HW0.out]
  refine (HS.out w0).mono ?_
  rintro e w1 ⟨rfl, hb⟩
  have HBL1 := Lib.hid (HBL0.out.trans (hb.mono HBL0.out.size))
  have hx1 := (hb.block _ lx0).trans hx0
  have lx1 := lt_row hx1
  obtain ⟨cx1, fx1⟩ := row_facts hx1
  have HV1 := Lib.hid (HV0.out.below hb)
  clear hb hx0 cx0 fx0
  go_wp2_with fail
  refine (HN.out w1 HV1.out).mono ?_
  rintro e w2 ⟨rfl, hb⟩
  have HBL2 := Lib.hid (HBL1.out.trans (hb.mono HBL1.out.size))
  have hx2 := (hb.block _ lx1).trans hx1
  have lx2 := lt_row hx2
  obtain ⟨cx2, fx2⟩ := row_facts hx2
  have HV2 := Lib.hid (HV1.out.below hb)
  clear hb hx1 cx1 fx1
  go_wp2_with fail
  refine (HL1.out w2 HV2.out.i).mono ?_
  rintro e w3 ⟨rfl, hb⟩
  have HBL3 := Lib.hid (HBL2.out.trans (hb.mono HBL2.out.size))
  have hx3 := (hb.block _ lx2).trans hx2
  have lx3 := lt_row hx3
  obtain ⟨cx3, fx3⟩ := row_facts hx3
  have HV3 := Lib.hid (HV2.out.below hb)
  clear hb hx2 cx2 fx2
  go_wp2_with fail
  refine (HT.out w3 HV3.out).mono ?_
  rintro e w4 ⟨rfl, hb⟩
  have HBL4 := Lib.hid (HBL3.out.trans (hb.mono HBL3.out.size))
  have hx4 := (hb.block _ lx3).trans hx3
  have lx4 := lt_row hx4
  obtain ⟨cx4, fx4⟩ := row_facts hx4
  have HV4 := Lib.hid (HV3.out.below hb)
  clear hb hx3 cx3 fx3
  go_wp2_with fail
  refine (HL2.out w4 HV4.out.i).mono ?_
  rintro e w5 ⟨rfl, hb⟩
  have HBL5 := Lib.hid (HBL4.out.trans (hb.mono HBL4.out.size))
  have hx5 := (hb.block _ lx4).trans hx4
  have lx5 := lt_row hx5
  obtain ⟨cx5, fx5⟩ := row_facts hx5
  have HV5 := Lib.hid (HV4.out.below hb)
  clear hb hx4 cx4 fx4
  go_wp2
  obtain ⟨wf, hwf⟩ : ∃ wf, wf = (Sets.set5 w5 w.heap.size (.int .i64 3) (.int .u64 1) (.int .i64 3) (.int .i64 1048576) (.int .i64 2)).alloc (.cells #[.int .u8 10, .int .i64 0, .int .i64 1, .string l1, .int .u8 0, .int .u8 10, .int .i64 0, .int .i64 2, .string l2, .int .u8 0, .int .u8 6, .int .i64 0, .int .i64 0, .string ⟨#[]⟩, .int .u8 0, .int .u8 6, .int .i64 0, .int .i64 0, .string ⟨#[]⟩, .int .u8 0, .int .u8 3, .int .i64 1, .int .i64 0, .string ⟨#[]⟩, .int .u8 0, .int .u8 6, .int .i64 0, .int .i64 1, .string ⟨#[]⟩, .int .u8 0, .int .u8 6, .int .i64 0, .int .i64 2, .string ⟨#[]⟩, .int .u8 0] 49) := ⟨_, rfl⟩
  have hxf : wf.heap[w.heap.size]? = some (.cells #[.int .i64 3, .int .u64 1, .int .i64 3, .int .i64 1048576, .int .i64 2] 24 (0, 0)) := by rw [hwf]; exact heap_at (Sets.set5_row hx5 ..) _
  have hyf : wf.heap[w5.heap.size]? = some (.cells #[.int .u8 10, .int .i64 0, .int .i64 1, .string l1, .int .u8 0, .int .u8 10, .int .i64 0, .int .i64 2, .string l2, .int .u8 0, .int .u8 6, .int .i64 0, .int .i64 0, .string ⟨#[]⟩, .int .u8 0, .int .u8 6, .int .i64 0, .int .i64 0, .string ⟨#[]⟩, .int .u8 0, .int .u8 3, .int .i64 1, .int .i64 0, .string ⟨#[]⟩, .int .u8 0, .int .u8 6, .int .i64 0, .int .i64 1, .string ⟨#[]⟩, .int .u8 0, .int .u8 6, .int .i64 0, .int .i64 2, .string ⟨#[]⟩, .int .u8 0] 49 (0, 0)) := by rw [hwf]; exact heap_new' _ (Sets.set5_size ..).symm
  have hbf : Below w.heap.size w wf := by rw [hwf]; exact Bl.new (Sets.set5_below HBL5.out (Nat.le_refl _) ..) _
  change bodyPost _ _ _ _ _ ((Sets.set5 w5 w.heap.size (.int .i64 3) (.int .u64 1) (.int .i64 3) (.int .i64 1048576) (.int .i64 2)).alloc (.cells #[.int .u8 10, .int .i64 0, .int .i64 1, .string l1, .int .u8 0, .int .u8 10, .int .i64 0, .int .i64 2, .string l2, .int .u8 0, .int .u8 6, .int .i64 0, .int .i64 0, .string ⟨#[]⟩, .int .u8 0, .int .u8 6, .int .i64 0, .int .i64 0, .string ⟨#[]⟩, .int .u8 0, .int .u8 3, .int .i64 1, .int .i64 0, .string ⟨#[]⟩, .int .u8 0, .int .u8 6, .int .i64 0, .int .i64 1, .string ⟨#[]⟩, .int .u8 0, .int .u8 6, .int .i64 0, .int .i64 2, .string ⟨#[]⟩, .int .u8 0] 49))
  rw [← hwf]
  refine bodyPost_ret (v := .tuple #[setV 1 3, .slice (some ⟨w5.heap.size, 0, none⟩) 7 7]) (results_cell_slot rfl _ _ w.heap.size 24 #[.int .i64 3, .int .u64 1, .int .i64 3, .int .i64 1048576, .int .i64 2] (0, 0) _ rfl hxf Tryz.underlying24 rfl setI rfl) rfl ?_
  exact ⟨_, rfl, deeds_sl hyf HCS.out (by decide), hbf⟩


end Go.Proofs.YtjiakfblgefioaaGreatDoor.WitD
