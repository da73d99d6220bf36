/-
  WHAT IS PROVED: what the document's scripts are. Condition: none.
-/
import Derived.Test.YtjiakfblgefioaaGreatDoorWitF
namespace Go.Proofs.YtjiakfblgefioaaGreatDoor.WitG
open Go Go.RowKit Go.Shelf Go.Proofs.YtjiakfblgefioaaGreatDoor Go.Proofs.YtjiakfblgefioaaGreatDoor.OctetS Go.Proofs.YtjiakfblgefioaaGreatDoor.IdentS Go.Proofs.YtjiakfblgefioaaGreatDoor.EventS Go.Proofs.YtjiakfblgefioaaGreatDoor.EntS Go.Proofs.YtjiakfblgefioaaGreatDoor.OctP Go.Proofs.YtjiakfblgefioaaGreatDoor.OctQ Go.Proofs.YtjiakfblgefioaaGreatDoor.IdentP Go.Proofs.YtjiakfblgefioaaGreatDoor.IdentR Go.Proofs.YtjiakfblgefioaaGreatDoor.EventP Go.Proofs.YtjiakfblgefioaaGreatDoor.EventC Go.Proofs.YtjiakfblgefioaaGreatDoor.EventB Go.Proofs.YtjiakfblgefioaaGreatDoor.RowsX Go.Proofs.YtjiakfblgefioaaGreatDoor.WitS Go.Proofs.YtjiakfblgefioaaGreatDoor.WitD Go.Proofs.YtjiakfblgefioaaGreatDoor.WitE Go.Proofs.YtjiakfblgefioaaGreatDoor.RedA Go.Proofs.YtjiakfblgefioaaGreatDoor.WitF
set_option linter.unusedVariables false
set_option linter.unusedSimpArgs false

set_option maxRecDepth 100000 in
set_option maxHeartbeats 4000000 in
theorem Turn_ok (w : World) : Calls Tryz.prog 10 #[] w (ScrPost (setV 0 3) turnL w) := by
  have hN1 := fun w => WitR.nth_ok w 1
  have hN2 := fun w => WitR.nth_ok w 2
  have hN4 := fun w => WitR.nth_ok w 4
  have hT := fun w => WitR.bytes_ok w 8 ⟨#[]⟩ ⟨#[49]⟩ 3 (by omega) (by omega) (by decide +kernel) (by decide +kernel)
  have hS := fun w => WitR.setup_ok w 0 3
  have hD := fun w => WitR.deliver_ok w 0
  have hC := fun w t => WitR.client_ok w t
  unfold setV at hS
  obtain ⟨n1, hn1⟩ : ∃ x, x = nthT 1 := ⟨_, rfl⟩
  obtain ⟨n2, hn2⟩ : ∃ x, x = nthT 2 := ⟨_, rfl⟩
  obtain ⟨n4, hn4⟩ : ∃ x, x = nthT 4 := ⟨_, rfl⟩
  obtain ⟨t8, ht8⟩ : ∃ x, x = tx 8 ⟨#[]⟩ ⟨#[49]⟩ 3 := ⟨_, rfl⟩
  have hfin : ([cl n1, dl 0, dl 0, cl n2, dl 0, dl 0] ++ [cl t8, dl 0, dl 0, dl 0, dl 0]) ++ [cl n4, dl 0, dl 0, dl 0] = turnL := by
    rw [hn1, hn2, hn4, ht8]
    rfl
  rw [← hn1] at hN1
  rw [← hn2] at hN2
  rw [← hn4] at hN4
  rw [← ht8] at hT
  have HFIN := Lib.hid hfin
  have HN1 := Lib.hid hN1
  have HN2 := Lib.hid hN2
  have HN4 := Lib.hid hN4
  have HT := Lib.hid hT
  have HS := Lib.hid hS
  have HD := Lib.hid hD
  have HC := Lib.hid hC
  obtain ⟨w0, hw0⟩ : ∃ w0, w0 = w.alloc (.cells #[.int .i64 0, .int .u64 0, .int .i64 0, .int .i64 0, .int .i64 0] 24) := ⟨_, rfl⟩
  have hb0 : Below w.heap.size w w0 := by rw [hw0]; exact ((Below.refl _ w).alloc (Nat.le_refl _) _)
  have hx0 : w0.heap[w.heap.size]? = some (.cells #[.int .i64 0, .int .u64 0, .int .i64 0, .int .i64 0, .int .i64 0] 24 (0, 0)) := by rw [hw0]; exact heap_new _ _
  have HBL0 := Lib.hid hb0
  have HW0 := Lib.hid hw0
  have lx0 := lt_row hx0
  obtain ⟨cx0, fx0⟩ := row_facts hx0
  clear hN1 hN2 hN4 hT hS hD hC hn1 hn2 hn4 ht8 hfin hb0 hw0
  go_enter Tryz.func10, Tryz.ntmps10
  go_wp2_with fail
  rw [← HW0.out]
  refine (HN1.out w0).mono ?_
  rintro e w1 ⟨rfl, hb⟩
  have HBL1 := Lib.hid (HBL0.out.trans (hb.mono HBL0.out.size))
  have hx1 := (hb.block _ lx0).trans hx0
  have lx1 := lt_row hx1
  obtain ⟨cx1, fx1⟩ := row_facts hx1
  clear hb hx0 cx0 fx0
  go_wp2_with fail
  refine (HC.out w1 n1).mono ?_
  rintro e w2 ⟨rfl, hb⟩
  have HBL2 := Lib.hid (HBL1.out.trans (hb.mono HBL1.out.size))
  have hx2 := (hb.block _ lx1).trans hx1
  have lx2 := lt_row hx2
  obtain ⟨cx2, fx2⟩ := row_facts hx2
  clear hb hx1 cx1 fx1
  go_wp2_with fail
  refine (HD.out w2).mono ?_
  rintro e w3 ⟨rfl, hb⟩
  have HBL3 := Lib.hid (HBL2.out.trans (hb.mono HBL2.out.size))
  have hx3 := (hb.block _ lx2).trans hx2
  have lx3 := lt_row hx3
  obtain ⟨cx3, fx3⟩ := row_facts hx3
  clear hb hx2 cx2 fx2
  go_wp2_with fail
  refine (HD.out w3).mono ?_
  rintro e w4 ⟨rfl, hb⟩
  have HBL4 := Lib.hid (HBL3.out.trans (hb.mono HBL3.out.size))
  have hx4 := (hb.block _ lx3).trans hx3
  have lx4 := lt_row hx4
  obtain ⟨cx4, fx4⟩ := row_facts hx4
  clear hb hx3 cx3 fx3
  go_wp2_with fail
  refine (HN2.out w4).mono ?_
  rintro e w5 ⟨rfl, hb⟩
  have HBL5 := Lib.hid (HBL4.out.trans (hb.mono HBL4.out.size))
  have hx5 := (hb.block _ lx4).trans hx4
  have lx5 := lt_row hx5
  obtain ⟨cx5, fx5⟩ := row_facts hx5
  clear hb hx4 cx4 fx4
  go_wp2_with fail
  refine (HC.out w5 n2).mono ?_
  rintro e w6 ⟨rfl, hb⟩
  have HBL6 := Lib.hid (HBL5.out.trans (hb.mono HBL5.out.size))
  have hx6 := (hb.block _ lx5).trans hx5
  have lx6 := lt_row hx6
  obtain ⟨cx6, fx6⟩ := row_facts hx6
  clear hb hx5 cx5 fx5
  go_wp2_with fail
  refine (HD.out w6).mono ?_
  rintro e w7 ⟨rfl, hb⟩
  have HBL7 := Lib.hid (HBL6.out.trans (hb.mono HBL6.out.size))
  have hx7 := (hb.block _ lx6).trans hx6
  have lx7 := lt_row hx7
  obtain ⟨cx7, fx7⟩ := row_facts hx7
  clear hb hx6 cx6 fx6
  go_wp2_with fail
  refine (HD.out w7).mono ?_
  rintro e w8 ⟨rfl, hb⟩
  have HBL8 := Lib.hid (HBL7.out.trans (hb.mono HBL7.out.size))
  have hx8 := (hb.block _ lx7).trans hx7
  have lx8 := lt_row hx8
  obtain ⟨cx8, fx8⟩ := row_facts hx8
  clear hb hx7 cx7 fx7
  go_wp2_with fail
  obtain ⟨wo, hwo⟩ : ∃ wo, wo = w8.alloc (.cells #[.int .u8 1, .int .i64 0, .int .i64 0, .string n1, .int .u8 0, .int .u8 6, .int .i64 0, .int .i64 0, .string ⟨#[]⟩, .int .u8 0, .int .u8 6, .int .i64 0, .int .i64 0, .string ⟨#[]⟩, .int .u8 0, .int .u8 1, .int .i64 0, .int .i64 0, .string n2, .int .u8 0, .int .u8 6, .int .i64 0, .int .i64 0, .string ⟨#[]⟩, .int .u8 0, .int .u8 6, .int .i64 0, .int .i64 0, .string ⟨#[]⟩, .int .u8 0] 49) := ⟨_, rfl⟩
  rw [← hwo]
  have hbo : Below w8.heap.size w8 wo := by rw [hwo]; exact (Below.refl _ _).alloc (Nat.le_refl _) _
  have hO : Ow wo (w.heap.size + 1) 49 5 (.slice (some ⟨w8.heap.size, 0, none⟩) 6 6) ([cl n1, dl 0, dl 0, cl n2, dl 0, dl 0]).length (ddV [cl n1, dl 0, dl 0, cl n2, dl 0, dl 0]) := Ow.of (by rw [hwo]; exact own_new rfl (by omega) (by decide) rfl)
  have HOo := Lib.hid hO
  have HBLo := Lib.hid (HBL8.out.trans (hbo.mono HBL8.out.size))
  have hxo := (hbo.block _ lx8).trans hx8
  have lxo := lt_row hxo
  clear hbo hwo hO hx8 cx8 fx8
  refine (HT.out wo).mono ?_
  rintro e w9 ⟨rfl, hb⟩
  have HBL9 := Lib.hid (HBLo.out.trans (hb.mono HBLo.out.size))
  have HO9 := Lib.hid (HOo.out.ext (Ext.ofB hb) (fun _ _ h => h))
  have hx9 := (hb.block _ lxo).trans hxo
  have lx9 := lt_row hx9
  obtain ⟨cx9, fx9⟩ := row_facts hx9
  clear hb hxo
  go_wp2_with fail
  refine (HC.out w9 t8).mono ?_
  rintro e w10 ⟨rfl, hb⟩
  have HBL10 := Lib.hid (HBL9.out.trans (hb.mono HBL9.out.size))
  have hx10 := (hb.block _ lx9).trans hx9
  have lx10 := lt_row hx10
  obtain ⟨cx10, fx10⟩ := row_facts hx10
  have HO10 := Lib.hid (HO9.out.ext (Ext.ofB hb) (fun _ _ h => h))
  clear hb hx9 cx9 fx9
  go_wp2_with fail
  refine (HD.out w10).mono ?_
  rintro e w11 ⟨rfl, hb⟩
  have HBL11 := Lib.hid (HBL10.out.trans (hb.mono HBL10.out.size))
  have hx11 := (hb.block _ lx10).trans hx10
  have lx11 := lt_row hx11
  obtain ⟨cx11, fx11⟩ := row_facts hx11
  have HO11 := Lib.hid (HO10.out.ext (Ext.ofB hb) (fun _ _ h => h))
  clear hb hx10 cx10 fx10
  go_wp2_with fail
  refine (HD.out w11).mono ?_
  rintro e w12 ⟨rfl, hb⟩
  have HBL12 := Lib.hid (HBL11.out.trans (hb.mono HBL11.out.size))
  have hx12 := (hb.block _ lx11).trans hx11
  have lx12 := lt_row hx12
  obtain ⟨cx12, fx12⟩ := row_facts hx12
  have HO12 := Lib.hid (HO11.out.ext (Ext.ofB hb) (fun _ _ h => h))
  clear hb hx11 cx11 fx11
  go_wp2_with fail
  refine (HD.out w12).mono ?_
  rintro e w13 ⟨rfl, hb⟩
  have HBL13 := Lib.hid (HBL12.out.trans (hb.mono HBL12.out.size))
  have hx13 := (hb.block _ lx12).trans hx12
  have lx13 := lt_row hx13
  obtain ⟨cx13, fx13⟩ := row_facts hx13
  have HO13 := Lib.hid (HO12.out.ext (Ext.ofB hb) (fun _ _ h => h))
  clear hb hx12 cx12 fx12
  go_wp2_with fail
  refine (HD.out w13).mono ?_
  rintro e w14 ⟨rfl, hb⟩
  have HBL14 := Lib.hid (HBL13.out.trans (hb.mono HBL13.out.size))
  have hx14 := (hb.block _ lx13).trans hx13
  have lx14 := lt_row hx14
  obtain ⟨cx14, fx14⟩ := row_facts hx14
  have HO14 := Lib.hid (HO13.out.ext (Ext.ofB hb) (fun _ _ h => h))
  clear hb hx13 cx13 fx13
  go_wp2_with (at_builtin; go_must (refine wpList_appF _ rfl (.tmp 12) (.tmp 19) _ _ rfl tyDeeds (w.heap.size + 1) _ 6 (ddV [cl n1, dl 0, dl 0, cl n2, dl 0, dl 0]) rfl (HO14.out.ext (Ext.ofB ((Below.refl _ w14).alloc (Nat.le_refl _) (.cells #[.int .u8 1, .int .i64 0, .int .i64 0, .string t8, .int .u8 0, .int .u8 6, .int .i64 0, .int .i64 0, .string ⟨#[]⟩, .int .u8 0, .int .u8 6, .int .i64 0, .int .i64 0, .string ⟨#[]⟩, .int .u8 0, .int .u8 6, .int .i64 0, .int .i64 0, .string ⟨#[]⟩, .int .u8 0, .int .u8 6, .int .i64 0, .int .i64 0, .string ⟨#[]⟩, .int .u8 0] 49))) (fun _ _ h => h)) _ 5 (ddV [cl t8, dl 0, dl 0, dl 0, dl 0]) rfl ((deeds_sl (L := [cl t8, dl 0, dl 0, dl 0, dl 0]) (heap_new w14 (.cells #[.int .u8 1, .int .i64 0, .int .i64 0, .string t8, .int .u8 0, .int .u8 6, .int .i64 0, .int .i64 0, .string ⟨#[]⟩, .int .u8 0, .int .u8 6, .int .i64 0, .int .i64 0, .string ⟨#[]⟩, .int .u8 0, .int .u8 6, .int .i64 0, .int .i64 0, .string ⟨#[]⟩, .int .u8 0, .int .u8 6, .int .i64 0, .int .i64 0, .string ⟨#[]⟩, .int .u8 0] 49)) rfl (by simp)).src tyDeeds.ht (dd_one _)) (6 + 5) rfl (ddV ([cl n1, dl 0, dl 0, cl n2, dl 0, dl 0] ++ [cl t8, dl 0, dl 0, dl 0, dl 0])) (by unfold ddV; simp only [List.flatMap_append]) ?h63 ?hby ?hba ?go))
  case h63 => unfold maxLen; omega
  case hby => omega
  case hba => have := lx14; simp; omega
  case go =>
  intro a15 c15 w15 hown hgr _
  have hbb : Below w.heap.size w w15 := ((Bl.new HBL14.out (.cells #[.int .u8 1, .int .i64 0, .int .i64 0, .string t8, .int .u8 0, .int .u8 6, .int .i64 0, .int .i64 0, .string ⟨#[]⟩, .int .u8 0, .int .u8 6, .int .i64 0, .int .i64 0, .string ⟨#[]⟩, .int .u8 0, .int .u8 6, .int .i64 0, .int .i64 0, .string ⟨#[]⟩, .int .u8 0, .int .u8 6, .int .i64 0, .int .i64 0, .string ⟨#[]⟩, .int .u8 0] 49))).grown hgr (by have := HBL14.out.size; simp; omega) (fun k hk => by have := (HO14.out.lt k hk).1; omega)
  have hx15 := heap_gr hgr (heap_at hx14 (.cells #[.int .u8 1, .int .i64 0, .int .i64 0, .string t8, .int .u8 0, .int .u8 6, .int .i64 0, .int .i64 0, .string ⟨#[]⟩, .int .u8 0, .int .u8 6, .int .i64 0, .int .i64 0, .string ⟨#[]⟩, .int .u8 0, .int .u8 6, .int .i64 0, .int .i64 0, .string ⟨#[]⟩, .int .u8 0, .int .u8 6, .int .i64 0, .int .i64 0, .string ⟨#[]⟩, .int .u8 0] 49)) (fun e => by have := (HO14.out.lt _ e).1; omega)
  have HBL15 := Lib.hid hbb
  have HO15 := Lib.hid hown
  have lx15 := lt_row hx15
  obtain ⟨cx15, fx15⟩ := row_facts hx15
  clear hbb hown hgr hx14 cx14 fx14
  go_wp2_with fail
  refine (HS.out w15).mono ?_
  rintro e w16 ⟨rfl, hb⟩
  have HBL16 := Lib.hid (HBL15.out.trans (hb.mono HBL15.out.size))
  have hx16 := (hb.block _ lx15).trans hx15
  have lx16 := lt_row hx16
  obtain ⟨cx16, fx16⟩ := row_facts hx16
  have HO16 := Lib.hid (HO15.out.ext (Ext.ofB hb) (fun _ _ h => h))
  clear hb hx15 cx15 fx15
  go_wp2_with fail
  refine (HN4.out w16).mono ?_
  rintro e w17 ⟨rfl, hb⟩
  have HBL17 := Lib.hid (HBL16.out.trans (hb.mono HBL16.out.size))
  have hx17 := (hb.block _ lx16).trans hx16
  have lx17 := lt_row hx17
  obtain ⟨cx17, fx17⟩ := row_facts hx17
  have HO17 := Lib.hid (HO16.out.ext (Ext.ofB hb) (fun _ _ h => h))
  clear hb hx16 cx16 fx16
  go_wp2_with fail
  refine (HC.out w17 n4).mono ?_
  rintro e w18 ⟨rfl, hb⟩
  have HBL18 := Lib.hid (HBL17.out.trans (hb.mono HBL17.out.size))
  have hx18 := (hb.block _ lx17).trans hx17
  have lx18 := lt_row hx18
  obtain ⟨cx18, fx18⟩ := row_facts hx18
  have HO18 := Lib.hid (HO17.out.ext (Ext.ofB hb) (fun _ _ h => h))
  clear hb hx17 cx17 fx17
  go_wp2_with fail
  refine (HD.out w18).mono ?_
  rintro e w19 ⟨rfl, hb⟩
  have HBL19 := Lib.hid (HBL18.out.trans (hb.mono HBL18.out.size))
  have hx19 := (hb.block _ lx18).trans hx18
  have lx19 := lt_row hx19
  obtain ⟨cx19, fx19⟩ := row_facts hx19
  have HO19 := Lib.hid (HO18.out.ext (Ext.ofB hb) (fun _ _ h => h))
  clear hb hx18 cx18 fx18
  go_wp2_with fail
  refine (HD.out w19).mono ?_
  rintro e w20 ⟨rfl, hb⟩
  have HBL20 := Lib.hid (HBL19.out.trans (hb.mono HBL19.out.size))
  have hx20 := (hb.block _ lx19).trans hx19
  have lx20 := lt_row hx20
  obtain ⟨cx20, fx20⟩ := row_facts hx20
  have HO20 := Lib.hid (HO19.out.ext (Ext.ofB hb) (fun _ _ h => h))
  clear hb hx19 cx19 fx19
  go_wp2_with fail
  refine (HD.out w20).mono ?_
  rintro e w21 ⟨rfl, hb⟩
  have HBL21 := Lib.hid (HBL20.out.trans (hb.mono HBL20.out.size))
  have hx21 := (hb.block _ lx20).trans hx20
  have lx21 := lt_row hx21
  obtain ⟨cx21, fx21⟩ := row_facts hx21
  have HO21 := Lib.hid (HO20.out.ext (Ext.ofB hb) (fun _ _ h => h))
  clear hb hx20 cx20 fx20
  go_wp2_with (at_builtin; go_must (refine wpList_appF _ rfl (.tmp 22) (.tmp 28) _ _ rfl tyDeeds (w.heap.size + 1) _ 11 (ddV ([cl n1, dl 0, dl 0, cl n2, dl 0, dl 0] ++ [cl t8, dl 0, dl 0, dl 0, dl 0])) rfl (HO21.out.ext (Ext.ofB ((Below.refl _ w21).alloc (Nat.le_refl _) (.cells #[.int .u8 1, .int .i64 0, .int .i64 0, .string n4, .int .u8 0, .int .u8 6, .int .i64 0, .int .i64 0, .string ⟨#[]⟩, .int .u8 0, .int .u8 6, .int .i64 0, .int .i64 0, .string ⟨#[]⟩, .int .u8 0, .int .u8 6, .int .i64 0, .int .i64 0, .string ⟨#[]⟩, .int .u8 0] 49))) (fun _ _ h => h)) _ 4 (ddV [cl n4, dl 0, dl 0, dl 0]) rfl ((deeds_sl (L := [cl n4, dl 0, dl 0, dl 0]) (heap_new w21 (.cells #[.int .u8 1, .int .i64 0, .int .i64 0, .string n4, .int .u8 0, .int .u8 6, .int .i64 0, .int .i64 0, .string ⟨#[]⟩, .int .u8 0, .int .u8 6, .int .i64 0, .int .i64 0, .string ⟨#[]⟩, .int .u8 0, .int .u8 6, .int .i64 0, .int .i64 0, .string ⟨#[]⟩, .int .u8 0] 49)) rfl (by simp)).src tyDeeds.ht (dd_one _)) (11 + 4) rfl (ddV (([cl n1, dl 0, dl 0, cl n2, dl 0, dl 0] ++ [cl t8, dl 0, dl 0, dl 0, dl 0]) ++ [cl n4, dl 0, dl 0, dl 0])) (by unfold ddV; simp only [List.flatMap_append]) ?h63 ?hby ?hba ?go))
  case h63 => unfold maxLen; omega
  case hby => omega
  case hba => have := lx21; simp; omega
  case go =>
  intro a22 c22 w22 hown hgr _
  have hbb : Below w.heap.size w w22 := ((Bl.new HBL21.out (.cells #[.int .u8 1, .int .i64 0, .int .i64 0, .string n4, .int .u8 0, .int .u8 6, .int .i64 0, .int .i64 0, .string ⟨#[]⟩, .int .u8 0, .int .u8 6, .int .i64 0, .int .i64 0, .string ⟨#[]⟩, .int .u8 0, .int .u8 6, .int .i64 0, .int .i64 0, .string ⟨#[]⟩, .int .u8 0] 49))).grown hgr (by have := HBL21.out.size; simp; omega) (fun k hk => by have := (HO21.out.lt k hk).1; omega)
  have hx22 := heap_gr hgr (heap_at hx21 (.cells #[.int .u8 1, .int .i64 0, .int .i64 0, .string n4, .int .u8 0, .int .u8 6, .int .i64 0, .int .i64 0, .string ⟨#[]⟩, .int .u8 0, .int .u8 6, .int .i64 0, .int .i64 0, .string ⟨#[]⟩, .int .u8 0, .int .u8 6, .int .i64 0, .int .i64 0, .string ⟨#[]⟩, .int .u8 0] 49)) (fun e => by have := (HO21.out.lt _ e).1; omega)
  have HBL22 := Lib.hid hbb
  have HO22 := Lib.hid hown
  have lx22 := lt_row hx22
  obtain ⟨cx22, fx22⟩ := row_facts hx22
  clear hbb hown hgr hx21 cx21 fx21
  go_wp2
  obtain ⟨wf, hwf⟩ : ∃ wf, wf = Sets.set5 w22 w.heap.size (.int .i64 3) (.int .u64 0) (.int .i64 3) (.int .i64 1048576) (.int .i64 2) := ⟨_, rfl⟩
  have hxf : wf.heap[w.heap.size]? = some (.cells #[.int .i64 3, .int .u64 0, .int .i64 3, .int .i64 1048576, .int .i64 2] 24 (0, 0)) := by rw [hwf]; exact Sets.set5_row hx22 ..
  have hof : Sl wf (.slice a22 15 c22) 5 15 (ddV (([cl n1, dl 0, dl 0, cl n2, dl 0, dl 0] ++ [cl t8, dl 0, dl 0, dl 0, dl 0]) ++ [cl n4, dl 0, dl 0, dl 0])) := by
    refine (HO22.out.ext (S := fun k => k = w.heap.size) ⟨by rw [hwf]; rfl, by rw [hwf]; rfl, by rw [hwf]; rfl, by rw [hwf, Sets.set5_size]; omega, fun k _ hk => by rw [hwf]; exact Sets.set5_far hk ..⟩ (fun k hk e => ?_)).sl
    have := (HO22.out.lt k hk).1
    omega
  have hbf : Below w.heap.size w wf := by rw [hwf]; exact Sets.set5_below HBL22.out (Nat.le_refl _) ..
  change bodyPost _ _ _ _ _ (Sets.set5 w22 w.heap.size (.int .i64 3) (.int .u64 0) (.int .i64 3) (.int .i64 1048576) (.int .i64 2))
  rw [← hwf]
  refine bodyPost_ret (v := .tuple #[setV 0 3, .slice a22 15 c22]) (results_cell_slot rfl _ _ w.heap.size 24 #[.int .i64 3, .int .u64 0, .int .i64 3, .int .i64 1048576, .int .i64 2] (0, 0) _ rfl hxf Tryz.underlying24 rfl setI rfl) rfl ?_
  exact ⟨_, rfl, by rw [← HFIN.out]; exact hof, hbf⟩


end Go.Proofs.YtjiakfblgefioaaGreatDoor.WitG
