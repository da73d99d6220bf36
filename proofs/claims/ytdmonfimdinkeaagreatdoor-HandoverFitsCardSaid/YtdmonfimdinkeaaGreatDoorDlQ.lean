/-
  WHAT IS PROVED: the statements' own check of the deals answers true. Condition: the variables hold what 'VarsD' and 'VarsH' say.
-/
import Derived.Test.YtdmonfimdinkeaaGreatDoorDlL
namespace Go.Proofs.YtdmonfimdinkeaaGreatDoor.DlQ
open Go Go.RowKit Go.Shelf Go.Proofs.YtdmonfimdinkeaaGreatDoor Go.Proofs.YtdmonfimdinkeaaGreatDoor.OctetS Go.Proofs.YtdmonfimdinkeaaGreatDoor.IdentS Go.Proofs.YtdmonfimdinkeaaGreatDoor.EntS Go.Proofs.YtdmonfimdinkeaaGreatDoor.OctG Go.Proofs.YtdmonfimdinkeaaGreatDoor.IdentP Go.Proofs.YtdmonfimdinkeaaGreatDoor.EntP Go.Proofs.YtdmonfimdinkeaaGreatDoor.EventC Go.Proofs.YtdmonfimdinkeaaGreatDoor.ShaA Go.Proofs.YtdmonfimdinkeaaGreatDoor.Steps Go.Proofs.YtdmonfimdinkeaaGreatDoor.KeyA Go.Proofs.YtdmonfimdinkeaaGreatDoor.KeyS Go.Proofs.YtdmonfimdinkeaaGreatDoor.KeyI Go.Proofs.YtdmonfimdinkeaaGreatDoor.KeyK Go.Proofs.YtdmonfimdinkeaaGreatDoor.TreeA Go.Proofs.YtdmonfimdinkeaaGreatDoor.EntK Go.Proofs.YtdmonfimdinkeaaGreatDoor.BookA Go.Proofs.YtdmonfimdinkeaaGreatDoor.EntL Go.Proofs.YtdmonfimdinkeaaGreatDoor.WireS Go.Proofs.YtdmonfimdinkeaaGreatDoor.WireT Go.Proofs.YtdmonfimdinkeaaGreatDoor.WireD Go.Proofs.YtdmonfimdinkeaaGreatDoor.DlV Go.Proofs.YtdmonfimdinkeaaGreatDoor.DlT Go.Proofs.YtdmonfimdinkeaaGreatDoor.DlL Go.Proofs.YtdmonfimdinkeaaGreatDoor.KeyG
open Go.Proofs.YtdmonfimdinkeaaGreatDoor.EntQ (ring_below)
set_option linter.unusedVariables false
set_option linter.unusedSimpArgs false
attribute [-go_sem] run_equalIn_agg

set_option maxRecDepth 100000 in
set_option maxHeartbeats 4000000 in
theorem lives_ok (w : World) (hv : VarsD w) (hk : VarsH w) : Calls Tryz.prog 20 #[] w (RB (.bool true) w) := by
  obtain ⟨D0, hD0⟩ : ∃ E, E = dA 1 nB := ⟨_, rfl⟩
  have hD0n : D0.size = 7 := by rw [hD0]; exact rfl
  have HD0S : Hid ((Tryz.prog.info? 39).map (·.size) = some D0.size) := Lib.hid (by rw [hD0n]; kernel_rfl)
  have HD0N : Hid (7 = D0.size) := Lib.hid hD0n.symm
  have HD0O : Hid (D0.all (·.oneCell') = true) := Lib.hid (by rw [hD0]; exact (by simp [dA, dlA, dlZ, Value.oneCell']))
  obtain ⟨DF, hDF⟩ : ∃ E, E = dA 1 gD := ⟨_, rfl⟩
  have hDFn : DF.size = 7 := by rw [hDF]; exact rfl
  have HDFS : Hid ((Tryz.prog.info? 39).map (·.size) = some DF.size) := Lib.hid (by rw [hDFn]; kernel_rfl)
  have HDFN : Hid (7 = DF.size) := Lib.hid hDFn.symm
  have HDFO : Hid (DF.all (·.oneCell') = true) := Lib.hid (by rw [hDF]; exact (by simp [dA, dlA, dlZ, Value.oneCell']))
  obtain ⟨DA, hDA⟩ : ∃ E, E = dA 2 nB := ⟨_, rfl⟩
  have hDAn : DA.size = 7 := by rw [hDA]; exact rfl
  have HDAS : Hid ((Tryz.prog.info? 39).map (·.size) = some DA.size) := Lib.hid (by rw [hDAn]; kernel_rfl)
  have HDAN : Hid (7 = DA.size) := Lib.hid hDAn.symm
  have HDAO : Hid (DA.all (·.oneCell') = true) := Lib.hid (by rw [hDA]; exact (by simp [dA, dlA, dlZ, Value.oneCell']))
  obtain ⟨DZ, hDZ⟩ : ∃ E, E = dlZ := ⟨_, rfl⟩
  have hDZn : DZ.size = 7 := by rw [hDZ]; exact rfl
  have HDZS : Hid ((Tryz.prog.info? 39).map (·.size) = some DZ.size) := Lib.hid (by rw [hDZn]; kernel_rfl)
  have HDZN : Hid (7 = DZ.size) := Lib.hid hDZn.symm
  have HDZO : Hid (DZ.all (·.oneCell') = true) := Lib.hid (by rw [hDZ]; exact (by simp [dA, dlA, dlZ, Value.oneCell']))
  obtain ⟨C, hC⟩ : ∃ E, E = (rootK [115] 1).A := ⟨_, rfl⟩
  have hCn : C.size = 32 := by rw [hC]; exact H32.size _
  have HCS : Hid ((Tryz.prog.info? 23).map (·.size) = some C.size) := Lib.hid (by rw [hCn]; kernel_rfl)
  have HCN : Hid (32 = C.size) := Lib.hid hCn.symm
  have HCO : Hid (C.all (·.oneCell') = true) := Lib.hid (by rw [hC]; exact H32.one _)
  have hDZL : (#[.int .u8 0, .string ⟨#[]⟩, .int .i64 0, .int .i64 0, .int .i64 0, .int .i64 0, .string ⟨#[]⟩] : Array Value) = DZ := by rw [hDZ]; rfl
  have hD0L : (#[.int .u8 1, .string ⟨#[33, 104, 97, 108, 108, 58, 48]⟩, .int .i64 1, .int .i64 5, .int .i64 2, .int .i64 1, .string ⟨#[]⟩] : Array Value) = D0 := by rw [hD0]; kernel_rfl
  have hCL : C = rootL := by rw [hC]; exact root_A
  have c0 : DA[0]? = some (.int .u8 2) := by rw [hDA]; rfl
  have c5 : DA[5]? = some (.int .i64 1) := by rw [hDA]; rfl
  have c6 : DA[6]? = some (.string ⟨#[]⟩) := by rw [hDA]; rfl
  have hq : ∀ w, (Op.equalIn 10000 39 (.agg DF) (.agg DF)).run Tryz.prog w = .ok true w := by rw [hDF]; exact fun w => eq_self (k := 1) (r := rB) (ep := 1) (ix := 5) (hub := 2) (next := 1) (s := gD) rfl w
  have hGE := guardDl
  have V3 := DlL.Sign_s
  have V4 := DlL.Ring_Root
  have V5 := DlL.Bytes_s
  have V6 := DlL.Parse_s
  have V7 := DlL.Parse_more
  have V8 := DlL.Verify_1
  have V9 := DlL.Verify_2
  have VA := DlL.Check_s
  have VB := DlL.Answer_1
  have VC := DlL.Answer_2
  have VD := DlL.Fits_1
  have VE := DlL.Fits_2
  rw [← hD0] at V3
  rw [← hDF] at V3 V5 V6 V8 VB VD VE
  rw [← hDA] at VB VC V9 VD VE
  rw [← hDZ] at V7 VA VC
  rw [← hC] at V4
  obtain ⟨ss, hss⟩ : ∃ x, x = sD := ⟨_, rfl⟩
  have hsz : ss.size ≤ 20000 := by rw [hss]; exact sD_size
  rw [← hss] at V5 V6 V7
  obtain ⟨GA, hGA⟩ : ∃ x, x = gr.A := ⟨_, rfl⟩
  have hGAn : GA.size = 36 := by rw [hGA]; unfold Gr'.A; rw [List.size_toArray, grF.len]
  have hGAc : GA.toList = gr.cs := by rw [hGA]; rfl
  have hGAb : Tryz.prog.built 60 [(0, .int .i64 2), (2, .int .i64 9), (3, .int .i64 1), (4, .agg C)] = some GA := by rw [hCL, hGA]; unfold Gr'.A Gr'.cs gr; rw [rootK_l, byV_bN, KeyN.root_s]; kernel_rfl
  have W3 := Lib.hid V3
  have W4 := Lib.hid V4
  have W5 := Lib.hid V5
  have W6 := Lib.hid V6
  have W7 := Lib.hid V7
  have W8 := Lib.hid V8
  have W9 := Lib.hid V9
  have WA := Lib.hid VA
  have WB := Lib.hid VB
  have WC := Lib.hid VC
  have WD := Lib.hid VD
  have WE := Lib.hid VE
  have HD0L := Lib.hid hD0L
  have HDZL := Lib.hid hDZL
  have Hc0 := Lib.hid c0
  have Hc5 := Lib.hid c5
  have Hc6 := Lib.hid c6
  have HGAn := Lib.hid hGAn
  have HGAc' := Lib.hid (show GA.toList = [gr].flatMap Gr'.cs by rw [hGAc]; simp)
  have HGAb := Lib.hid hGAb
  have Hq := Lib.hid hq
  have HGE := Lib.hid hGE
  have HSZ := Lib.hid hsz
  have HV := Lib.hid hv
  have HK := Lib.hid hk
  clear hD0L hDZL c0 c5 c6 hq hGE hGAc hGAb hGA hCL hD0 hDF hDA hDZ hC hss hsz hv hk V3 V4 V5 V6 V7 V8 V9 VA VB VC VD VE hD0n hDFn hDAn hDZn hCn
  obtain ⟨w0, rfl⟩ : ∃ w0 : World, w0 = w := ⟨_, rfl⟩
  have HBL0 := Lib.hid (Below.refl w0.heap.size w0)
  have z0 := HBL0.out.size
  go_enter Tryz.func20, Tryz.ntmps20
  skip
  go_wp2_with (first | (refine wpList_store_rowA rfl _ _ _ rfl w0.heap.size D0 rfl (by rw [← HD0L.out]; rfl) _ _ (heap_new _ _) HD0S.out (by rw [← HD0N.out]; rfl) HD0O.out ?_) | fail)
  intro u1 hu1
  have hb : Below w0.heap.size w0 u1 := by rw [hu1.out]; exact below_row ((Below.refl _ _).alloc (Nat.le_refl _) _) (Nat.le_refl _) _
  have hy : u1.heap[w0.heap.size]? = some (.cells D0 39 (0, 0)) := by rw [hu1.out]; exact setRow_at (heap_new _ _)
  clear hu1
  obtain ⟨w1, hww⟩ : ∃ w', w' = u1 := ⟨_, rfl⟩
  rw [← hww] at hb hy ⊢
  clear hww
  obtain ⟨BE, hBE⟩ : ∃ B, B = w0.heap.size := ⟨_, rfl⟩
  rw [← hBE] at hy ⊢
  have gE : w0.heap.size ≤ BE := by omega
  clear hBE
  have Hyn := Lib.hid hy
  clear hy
  have HBL1 := Lib.hid (HBL0.out.trans (hb.mono HBL0.out.size))
  have z1 := HBL1.out.size
  clear hb z0 
  have HE1 := Lib.hid Hyn.out
  have lE1 := lt_row HE1.out
  clear Hyn
  go_wp2_with fail
  go_wp2_with fail
  refine (Make_s w1 (HK.out.below HBL1.out)).mono ?_
  rintro e w2 ⟨R, v, rfl, hR, hb⟩
  have hRg := hR.ge
  have hRl := lt_row hR.row
  have HR2 := Lib.hid hR
  clear hR
  have lE_ := lE1
  have HE2 := Lib.hid ((hb.block _ lE1).trans HE1.out)
  have lE2 := lt_row HE2.out
  have HBL2 := Lib.hid (HBL1.out.trans (hb.mono HBL1.out.size))
  have z2 := HBL2.out.size
  clear hb z1 lE1
  go_wp2_with (first | (refine wpList_load_row rfl _ _ rfl BE rfl _ D0 (0, 0) _ HE2.out Tryz.underlying39 rfl HD0S.out ?_) | fail)
  refine (W3.out w1 w2 R v HR2.out (HK.out.below HBL2.out) (HV.out.below HBL2.out)).mono ?_
  rintro e w3 ⟨rfl, hRn, hE⟩
  have HE3 := Lib.hid (hE.blockOf HE2.out (fun h => by omega))
  have lE3 := lt_row HE3.out
  have HBL3 := Lib.hid (Bl.ext HBL2.out hE (fun k h1 h => by omega))
  have z3 := HBL3.out.size
  clear hE z2 lE2
  have HR3 := Lib.hid hRn
  clear hRn
  go_wp2_with (first | (refine wpList_store_rowA rfl _ _ _ rfl w3.heap.size DF rfl rfl _ _ (heap_new _ _) HDFS.out (by rw [← HDFN.out]; rfl) HDFO.out ?_) | fail)
  intro u1 hu1
  have hb : Below w3.heap.size w3 u1 := by rw [hu1.out]; exact below_row ((Below.refl _ _).alloc (Nat.le_refl _) _) (Nat.le_refl _) _
  have hy : u1.heap[w3.heap.size]? = some (.cells DF 39 (0, 0)) := by rw [hu1.out]; exact setRow_at (heap_new _ _)
  clear hu1
  obtain ⟨w4, hww⟩ : ∃ w', w' = u1 := ⟨_, rfl⟩
  rw [← hww] at hb hy ⊢
  clear hww
  obtain ⟨BF, hBF⟩ : ∃ B, B = w3.heap.size := ⟨_, rfl⟩
  rw [← hBF] at hy ⊢
  have gF : w0.heap.size ≤ BF := by omega
  have hEF : BE < BF := by have := lE3; omega
  have hRF : R < BF := by have := lt_row HR3.out.row; omega
  clear hBF
  have Hyn := Lib.hid hy
  clear hy
  have HE4 := Lib.hid ((hb.block _ lE3).trans HE3.out)
  have lE4 := lt_row HE4.out
  have HR4 := Lib.hid (ring_below HR3.out hb)
  have HBL4 := Lib.hid (HBL3.out.trans (hb.mono HBL3.out.size))
  have z4 := HBL4.out.size
  clear hb z3 lE3
  have HF4 := Lib.hid Hyn.out
  have lF4 := lt_row HF4.out
  clear Hyn
  go_wp2_with (first | (refine wpList_load_row rfl _ _ rfl BF rfl _ DF (0, 0) _ HF4.out Tryz.underlying39 rfl HDFS.out ?_) | fail)
  refine (WB.out w4 (HV.out.below HBL4.out)).mono ?_
  rintro e w5 ⟨rfl, hb⟩
  have HE5 := Lib.hid ((hb.block _ lE4).trans HE4.out)
  have lE5 := lt_row HE5.out
  have HF5 := Lib.hid ((hb.block _ lF4).trans HF4.out)
  have lF5 := lt_row HF5.out
  have HR5 := Lib.hid (ring_below HR4.out hb)
  have HBL5 := Lib.hid (HBL4.out.trans (hb.mono HBL4.out.size))
  have z5 := HBL5.out.size
  clear hb z4 lE4 lF4
  go_wp2_with (first | (refine wpList_store_rowA rfl _ _ _ rfl w5.heap.size DA rfl rfl _ _ (heap_new _ _) HDAS.out (by rw [← HDAN.out]; rfl) HDAO.out ?_) | fail)
  intro u1 hu1
  have hb : Below w5.heap.size w5 u1 := by rw [hu1.out]; exact below_row ((Below.refl _ _).alloc (Nat.le_refl _) _) (Nat.le_refl _) _
  have hy : u1.heap[w5.heap.size]? = some (.cells DA 39 (0, 0)) := by rw [hu1.out]; exact setRow_at (heap_new _ _)
  clear hu1
  obtain ⟨w6, hww⟩ : ∃ w', w' = u1 := ⟨_, rfl⟩
  rw [← hww] at hb hy ⊢
  clear hww
  obtain ⟨BA, hBA⟩ : ∃ B, B = w5.heap.size := ⟨_, rfl⟩
  rw [← hBA] at hy ⊢
  have gA : w0.heap.size ≤ BA := by omega
  have hFA : BF < BA := by have := lF5; omega
  clear hBA
  have Hyn := Lib.hid hy
  clear hy
  have HE6 := Lib.hid ((hb.block _ lE5).trans HE5.out)
  have lE6 := lt_row HE6.out
  have HF6 := Lib.hid ((hb.block _ lF5).trans HF5.out)
  have lF6 := lt_row HF6.out
  have HR6 := Lib.hid (ring_below HR5.out hb)
  have HBL6 := Lib.hid (HBL5.out.trans (hb.mono HBL5.out.size))
  have z6 := HBL6.out.size
  clear hb z5 lE5 lF5
  have HA6 := Lib.hid Hyn.out
  have lA6 := lt_row HA6.out
  clear Hyn
  go_wp2_with (first | (refine wpList_load_row rfl _ _ rfl BA rfl _ DA (0, 0) _ HA6.out Tryz.underlying39 rfl HDAS.out ?_) | fail)
  refine (WC.out w6 (HV.out.below HBL6.out)).mono ?_
  rintro e w7 ⟨rfl, hb⟩
  have HE7 := Lib.hid ((hb.block _ lE6).trans HE6.out)
  have lE7 := lt_row HE7.out
  have HF7 := Lib.hid ((hb.block _ lF6).trans HF6.out)
  have lF7 := lt_row HF7.out
  have HA7 := Lib.hid ((hb.block _ lA6).trans HA6.out)
  have lA7 := lt_row HA7.out
  have HR7 := Lib.hid (ring_below HR6.out hb)
  have HBL7 := Lib.hid (HBL6.out.trans (hb.mono HBL6.out.size))
  have z7 := HBL7.out.size
  clear hb z6 lE6 lF6 lA6
  go_wp2_with (first | (refine wpList_store_rowA rfl _ _ _ rfl w7.heap.size DZ rfl rfl _ _ (heap_new _ _) HDZS.out (by rw [← HDZN.out]; rfl) HDZO.out ?_) | fail)
  intro u1 hu1
  have hb : Below w7.heap.size w7 u1 := by rw [hu1.out]; exact below_row ((Below.refl _ _).alloc (Nat.le_refl _) _) (Nat.le_refl _) _
  have hy : u1.heap[w7.heap.size]? = some (.cells DZ 39 (0, 0)) := by rw [hu1.out]; exact setRow_at (heap_new _ _)
  clear hu1
  obtain ⟨w8, hww⟩ : ∃ w', w' = u1 := ⟨_, rfl⟩
  rw [← hww] at hb hy ⊢
  clear hww
  obtain ⟨BZ, hBZ⟩ : ∃ B, B = w7.heap.size := ⟨_, rfl⟩
  rw [← hBZ] at hy ⊢
  have gZ : w0.heap.size ≤ BZ := by omega
  clear hBZ
  have Hyn := Lib.hid hy
  clear hy
  have HE8 := Lib.hid ((hb.block _ lE7).trans HE7.out)
  have lE8 := lt_row HE8.out
  have HF8 := Lib.hid ((hb.block _ lF7).trans HF7.out)
  have lF8 := lt_row HF8.out
  have HA8 := Lib.hid ((hb.block _ lA7).trans HA7.out)
  have lA8 := lt_row HA8.out
  have HR8 := Lib.hid (ring_below HR7.out hb)
  have HBL8 := Lib.hid (HBL7.out.trans (hb.mono HBL7.out.size))
  have z8 := HBL8.out.size
  clear hb z7 lE7 lF7 lA7
  have HZ8 := Lib.hid Hyn.out
  have lZ8 := lt_row HZ8.out
  clear Hyn
  go_wp2_with fail
  refine (W4.out w1 w8 R 1 v HR8.out).mono ?_
  rintro e w9 ⟨rfl, hb⟩
  have HE9 := Lib.hid ((hb.block _ lE8).trans HE8.out)
  have lE9 := lt_row HE9.out
  have HF9 := Lib.hid ((hb.block _ lF8).trans HF8.out)
  have lF9 := lt_row HF9.out
  have HA9 := Lib.hid ((hb.block _ lA8).trans HA8.out)
  have lA9 := lt_row HA9.out
  have HZ9 := Lib.hid ((hb.block _ lZ8).trans HZ8.out)
  have lZ9 := lt_row HZ9.out
  have HR9 := Lib.hid (ring_below HR8.out hb)
  have HBL9 := Lib.hid (HBL8.out.trans (hb.mono HBL8.out.size))
  have z9 := HBL9.out.size
  clear hb z8 lE8 lF8 lA8 lZ8
  go_wp2_with (first | (refine EntQ.wpList_buildC rfl 60 _ rfl GA (by first | exact HGAb.out | (go_simp; exact HGAb.out)) ?_) | (refine wpList_load_row rfl _ _ rfl BF rfl _ DF (0, 0) _ (heap_at HF9.out _) Tryz.underlying39 rfl HDFS.out ?_) | fail)
  rw [EntQ.fold_any #[.int .i64 0, .int .i64 0, .int .i64 0, .int .i64 0, .int .u8 0, .int .u8 0, .int .u8 0, .int .u8 0, .int .u8 0, .int .u8 0, .int .u8 0, .int .u8 0, .int .u8 0, .int .u8 0, .int .u8 0, .int .u8 0, .int .u8 0, .int .u8 0, .int .u8 0, .int .u8 0, .int .u8 0, .int .u8 0, .int .u8 0, .int .u8 0, .int .u8 0, .int .u8 0, .int .u8 0, .int .u8 0, .int .u8 0, .int .u8 0, .int .u8 0, .int .u8 0, .int .u8 0, .int .u8 0, .int .u8 0, .int .u8 0] GA 36 rfl HGAn.out]
  obtain ⟨w10, hww⟩ : ∃ w', w' = w9.alloc (.cells GA 60) := ⟨_, rfl⟩
  rw [← hww]
  have hb : Below w9.heap.size w9 w10 := by rw [hww]; exact (Below.refl _ _).alloc (Nat.le_refl _) _
  have hy : w10.heap[w9.heap.size]? = some (.cells GA 60 (0, 0)) := by rw [hww]; exact heap_new _ _
  clear hww
  obtain ⟨BB, hBB⟩ : ∃ B, B = w9.heap.size := ⟨_, rfl⟩
  rw [← hBB] at hy ⊢
  have hFB : BF < BB := by have := lF9; omega
  clear hBB
  have Hyn := Lib.hid hy
  clear hy
  have HE10 := Lib.hid ((hb.block _ lE9).trans HE9.out)
  have lE10 := lt_row HE10.out
  have HF10 := Lib.hid ((hb.block _ lF9).trans HF9.out)
  have lF10 := lt_row HF10.out
  have HA10 := Lib.hid ((hb.block _ lA9).trans HA9.out)
  have lA10 := lt_row HA10.out
  have HZ10 := Lib.hid ((hb.block _ lZ9).trans HZ9.out)
  have lZ10 := lt_row HZ10.out
  have HBL10 := Lib.hid (HBL9.out.trans (hb.mono HBL9.out.size))
  have z10 := HBL10.out.size
  clear hb z9 lE9 lF9 lA9 lZ9
  have HB10 := Lib.hid Hyn.out
  have lB10 := lt_row HB10.out
  clear Hyn
  refine (W5.out w10 (HV.out.below HBL10.out)).mono ?_
  rintro e w11 ⟨rfl, hb⟩
  have HE11 := Lib.hid ((hb.block _ lE10).trans HE10.out)
  have lE11 := lt_row HE11.out
  have HF11 := Lib.hid ((hb.block _ lF10).trans HF10.out)
  have lF11 := lt_row HF11.out
  have HA11 := Lib.hid ((hb.block _ lA10).trans HA10.out)
  have lA11 := lt_row HA11.out
  have HZ11 := Lib.hid ((hb.block _ lZ10).trans HZ10.out)
  have lZ11 := lt_row HZ11.out
  have HB11 := Lib.hid ((hb.block _ lB10).trans HB10.out)
  have lB11 := lt_row HB11.out
  have HBL11 := Lib.hid (HBL10.out.trans (hb.mono HBL10.out.size))
  have z11 := HBL11.out.size
  clear hb z10 lE10 lF10 lA10 lZ10 lB10
  go_wp2_with fail
  refine (W6.out w11 (HV.out.below HBL11.out)).mono ?_
  rintro e w12 ⟨rfl, hb⟩
  have HE12 := Lib.hid ((hb.block _ lE11).trans HE11.out)
  have lE12 := lt_row HE12.out
  have HF12 := Lib.hid ((hb.block _ lF11).trans HF11.out)
  have lF12 := lt_row HF12.out
  have HA12 := Lib.hid ((hb.block _ lA11).trans HA11.out)
  have lA12 := lt_row HA12.out
  have HZ12 := Lib.hid ((hb.block _ lZ11).trans HZ11.out)
  have lZ12 := lt_row HZ12.out
  have HB12 := Lib.hid ((hb.block _ lB11).trans HB11.out)
  have lB12 := lt_row HB12.out
  have HBL12 := Lib.hid (HBL11.out.trans (hb.mono HBL11.out.size))
  have z12 := HBL12.out.size
  clear hb z11 lE11 lF11 lA11 lZ11 lB11
  go_wp2_with (first | (refine wpList_store_rowA rfl _ _ _ rfl w12.heap.size DF rfl rfl _ _ (heap_new _ _) HDFS.out (by rw [← HDFN.out]; rfl) HDFO.out ?_) | fail)
  intro u1 hu1
  have hb : Below w12.heap.size w12 u1 := by rw [hu1.out]; exact below_row ((Below.refl _ _).alloc (Nat.le_refl _) _) (Nat.le_refl _) _
  have hy : u1.heap[w12.heap.size]? = some (.cells DF 39 (0, 0)) := by rw [hu1.out]; exact setRow_at (heap_new _ _)
  clear hu1
  obtain ⟨w13, hww⟩ : ∃ w', w' = u1 := ⟨_, rfl⟩
  rw [← hww] at hb hy ⊢
  clear hww
  obtain ⟨BG, hBG⟩ : ∃ B, B = w12.heap.size := ⟨_, rfl⟩
  rw [← hBG] at hy ⊢
  have gG : w0.heap.size ≤ BG := by omega
  have hFG : BF < BG := by have := lF12; omega
  clear hBG
  have Hyn := Lib.hid hy
  clear hy
  have HE13 := Lib.hid ((hb.block _ lE12).trans HE12.out)
  have lE13 := lt_row HE13.out
  have HF13 := Lib.hid ((hb.block _ lF12).trans HF12.out)
  have lF13 := lt_row HF13.out
  have HA13 := Lib.hid ((hb.block _ lA12).trans HA12.out)
  have lA13 := lt_row HA13.out
  have HZ13 := Lib.hid ((hb.block _ lZ12).trans HZ12.out)
  have lZ13 := lt_row HZ13.out
  have HB13 := Lib.hid ((hb.block _ lB12).trans HB12.out)
  have lB13 := lt_row HB13.out
  have HBL13 := Lib.hid (HBL12.out.trans (hb.mono HBL12.out.size))
  have z13 := HBL13.out.size
  clear hb z12 lE12 lF12 lA12 lZ12 lB12
  have HG13 := Lib.hid Hyn.out
  have lG13 := lt_row HG13.out
  clear Hyn
  have hszz := HSZ.out
  go_wp2_with fail
  refine (W7.out w13 (HV.out.below HBL13.out)).mono ?_
  rintro e w14 ⟨rfl, hb⟩
  have HE14 := Lib.hid ((hb.block _ lE13).trans HE13.out)
  have lE14 := lt_row HE14.out
  have HF14 := Lib.hid ((hb.block _ lF13).trans HF13.out)
  have lF14 := lt_row HF14.out
  have HA14 := Lib.hid ((hb.block _ lA13).trans HA13.out)
  have lA14 := lt_row HA14.out
  have HZ14 := Lib.hid ((hb.block _ lZ13).trans HZ13.out)
  have lZ14 := lt_row HZ14.out
  have HB14 := Lib.hid ((hb.block _ lB13).trans HB13.out)
  have lB14 := lt_row HB14.out
  have HG14 := Lib.hid ((hb.block _ lG13).trans HG13.out)
  have lG14 := lt_row HG14.out
  have HBL14 := Lib.hid (HBL13.out.trans (hb.mono HBL13.out.size))
  have z14 := HBL14.out.size
  clear hb z13 lE13 lF13 lA13 lZ13 lB13 lG13
  go_wp2_with (first | (refine wpList_store_rowA rfl _ _ _ rfl w14.heap.size DZ rfl rfl _ _ (heap_new _ _) HDZS.out (by rw [← HDZN.out]; rfl) HDZO.out ?_) | fail)
  intro u1 hu1
  have hb : Below w14.heap.size w14 u1 := by rw [hu1.out]; exact below_row ((Below.refl _ _).alloc (Nat.le_refl _) _) (Nat.le_refl _) _
  have hy : u1.heap[w14.heap.size]? = some (.cells DZ 39 (0, 0)) := by rw [hu1.out]; exact setRow_at (heap_new _ _)
  clear hu1
  obtain ⟨w15, hww⟩ : ∃ w', w' = u1 := ⟨_, rfl⟩
  rw [← hww] at hb hy ⊢
  clear hww
  obtain ⟨BQ, hBQ⟩ : ∃ B, B = w14.heap.size := ⟨_, rfl⟩
  rw [← hBQ] at hy ⊢
  have gQ : w0.heap.size ≤ BQ := by omega
  clear hBQ
  have Hyn := Lib.hid hy
  clear hy
  have HE15 := Lib.hid ((hb.block _ lE14).trans HE14.out)
  have lE15 := lt_row HE15.out
  have HF15 := Lib.hid ((hb.block _ lF14).trans HF14.out)
  have lF15 := lt_row HF15.out
  have HA15 := Lib.hid ((hb.block _ lA14).trans HA14.out)
  have lA15 := lt_row HA15.out
  have HZ15 := Lib.hid ((hb.block _ lZ14).trans HZ14.out)
  have lZ15 := lt_row HZ15.out
  have HB15 := Lib.hid ((hb.block _ lB14).trans HB14.out)
  have lB15 := lt_row HB15.out
  have HG15 := Lib.hid ((hb.block _ lG14).trans HG14.out)
  have lG15 := lt_row HG15.out
  have HBL15 := Lib.hid (HBL14.out.trans (hb.mono HBL14.out.size))
  have z15 := HBL15.out.size
  clear hb z14 lE14 lF14 lA14 lZ14 lB14 lG14
  have HQ15 := Lib.hid Hyn.out
  have lQ15 := lt_row HQ15.out
  clear Hyn
  obtain ⟨cy, fy⟩ := row_facts HA15.out
  have kA0 := (cy 0).trans Hc0.out
  have kA5 := (cy 5).trans Hc5.out
  have kA6 := (cy 6).trans Hc6.out
  clear cy fy
  have hq := Hq.out
  have hGE := HGE.out
  have kzE : ((⟨#[]⟩ : ByteArray).toList == []) = true := by decide +kernel
  iterate 8 go_step
  simp only [List.append_eq, List.cons_append, List.nil_append]
  go_wp2_with (first | (refine WireT.wpList_load_rowG (by first | rfl | kernel_rfl) _ _ rfl BG rfl _ DF (0, 0) _ HG15.out Tryz.underlying39 rfl HDFS.out ?_) | (refine WireT.wpList_load_rowG (by first | rfl | kernel_rfl) _ _ rfl BF rfl _ DF (0, 0) _ HF15.out Tryz.underlying39 rfl HDFS.out ?_) | (refine WireT.wpList_load_rowG (by first | rfl | kernel_rfl) _ _ rfl BA rfl _ DA (0, 0) _ HA15.out Tryz.underlying39 rfl HDAS.out ?_) | fail)
  clear kA0 kA5 kA6 hq hGE kzE
  refine (W8.out w15 _ (HK.out.below HBL15.out) (HV.out.below HBL15.out) (by rw [← HGAc'.out]; exact EntQ.sl_one HB15.out HGAn.out)).mono ?_
  rintro e w16 ⟨rfl, hb⟩
  have HE16 := Lib.hid ((hb.block _ lE15).trans HE15.out)
  have lE16 := lt_row HE16.out
  have HF16 := Lib.hid ((hb.block _ lF15).trans HF15.out)
  have lF16 := lt_row HF16.out
  have HA16 := Lib.hid ((hb.block _ lA15).trans HA15.out)
  have lA16 := lt_row HA16.out
  have HZ16 := Lib.hid ((hb.block _ lZ15).trans HZ15.out)
  have lZ16 := lt_row HZ16.out
  have HB16 := Lib.hid ((hb.block _ lB15).trans HB15.out)
  have lB16 := lt_row HB16.out
  have HG16 := Lib.hid ((hb.block _ lG15).trans HG15.out)
  have lG16 := lt_row HG16.out
  have HQ16 := Lib.hid ((hb.block _ lQ15).trans HQ15.out)
  have lQ16 := lt_row HQ16.out
  have HBL16 := Lib.hid (HBL15.out.trans (hb.mono HBL15.out.size))
  have z16 := HBL16.out.size
  clear hb z15 lE15 lF15 lA15 lZ15 lB15 lG15 lQ15
  go_wp2_with (first | (refine WireT.wpList_load_rowG (by first | rfl | kernel_rfl) _ _ rfl BG rfl _ DF (0, 0) _ HG16.out Tryz.underlying39 rfl HDFS.out ?_) | (refine WireT.wpList_load_rowG (by first | rfl | kernel_rfl) _ _ rfl BF rfl _ DF (0, 0) _ HF16.out Tryz.underlying39 rfl HDFS.out ?_) | (refine WireT.wpList_load_rowG (by first | rfl | kernel_rfl) _ _ rfl BA rfl _ DA (0, 0) _ HA16.out Tryz.underlying39 rfl HDAS.out ?_) | fail)
  refine (W9.out w16 _ (HK.out.below HBL16.out) (HV.out.below HBL16.out) (by rw [← HGAc'.out]; exact EntQ.sl_one HB16.out HGAn.out)).mono ?_
  rintro e w17 ⟨rfl, hb⟩
  have HE17 := Lib.hid ((hb.block _ lE16).trans HE16.out)
  have lE17 := lt_row HE17.out
  have HF17 := Lib.hid ((hb.block _ lF16).trans HF16.out)
  have lF17 := lt_row HF17.out
  have HA17 := Lib.hid ((hb.block _ lA16).trans HA16.out)
  have lA17 := lt_row HA17.out
  have HZ17 := Lib.hid ((hb.block _ lZ16).trans HZ16.out)
  have lZ17 := lt_row HZ17.out
  have HB17 := Lib.hid ((hb.block _ lB16).trans HB16.out)
  have lB17 := lt_row HB17.out
  have HG17 := Lib.hid ((hb.block _ lG16).trans HG16.out)
  have lG17 := lt_row HG17.out
  have HQ17 := Lib.hid ((hb.block _ lQ16).trans HQ16.out)
  have lQ17 := lt_row HQ17.out
  have HBL17 := Lib.hid (HBL16.out.trans (hb.mono HBL16.out.size))
  have z17 := HBL17.out.size
  clear hb z16 lE16 lF16 lA16 lZ16 lB16 lG16 lQ16
  go_wp2_with (first | (refine WireT.wpList_load_rowG (by first | rfl | kernel_rfl) _ _ rfl BG rfl _ DF (0, 0) _ HG17.out Tryz.underlying39 rfl HDFS.out ?_) | (refine WireT.wpList_load_rowG (by first | rfl | kernel_rfl) _ _ rfl BF rfl _ DF (0, 0) _ HF17.out Tryz.underlying39 rfl HDFS.out ?_) | (refine WireT.wpList_load_rowG (by first | rfl | kernel_rfl) _ _ rfl BA rfl _ DA (0, 0) _ HA17.out Tryz.underlying39 rfl HDAS.out ?_) | fail)
  refine (WD.out w17 (HV.out.below HBL17.out)).mono ?_
  rintro e w18 ⟨rfl, hb⟩
  have HE18 := Lib.hid ((hb.block _ lE17).trans HE17.out)
  have lE18 := lt_row HE18.out
  have HF18 := Lib.hid ((hb.block _ lF17).trans HF17.out)
  have lF18 := lt_row HF18.out
  have HA18 := Lib.hid ((hb.block _ lA17).trans HA17.out)
  have lA18 := lt_row HA18.out
  have HZ18 := Lib.hid ((hb.block _ lZ17).trans HZ17.out)
  have lZ18 := lt_row HZ18.out
  have HB18 := Lib.hid ((hb.block _ lB17).trans HB17.out)
  have lB18 := lt_row HB18.out
  have HG18 := Lib.hid ((hb.block _ lG17).trans HG17.out)
  have lG18 := lt_row HG18.out
  have HQ18 := Lib.hid ((hb.block _ lQ17).trans HQ17.out)
  have lQ18 := lt_row HQ18.out
  have HBL18 := Lib.hid (HBL17.out.trans (hb.mono HBL17.out.size))
  have z18 := HBL18.out.size
  clear hb z17 lE17 lF17 lA17 lZ17 lB17 lG17 lQ17
  go_wp2_with (first | (refine WireT.wpList_load_rowG (by first | rfl | kernel_rfl) _ _ rfl BG rfl _ DF (0, 0) _ HG18.out Tryz.underlying39 rfl HDFS.out ?_) | (refine WireT.wpList_load_rowG (by first | rfl | kernel_rfl) _ _ rfl BF rfl _ DF (0, 0) _ HF18.out Tryz.underlying39 rfl HDFS.out ?_) | (refine WireT.wpList_load_rowG (by first | rfl | kernel_rfl) _ _ rfl BA rfl _ DA (0, 0) _ HA18.out Tryz.underlying39 rfl HDAS.out ?_) | fail)
  refine (WE.out w18 (HV.out.below HBL18.out)).mono ?_
  rintro e w19 ⟨rfl, hb⟩
  have HE19 := Lib.hid ((hb.block _ lE18).trans HE18.out)
  have lE19 := lt_row HE19.out
  have HF19 := Lib.hid ((hb.block _ lF18).trans HF18.out)
  have lF19 := lt_row HF19.out
  have HA19 := Lib.hid ((hb.block _ lA18).trans HA18.out)
  have lA19 := lt_row HA19.out
  have HZ19 := Lib.hid ((hb.block _ lZ18).trans HZ18.out)
  have lZ19 := lt_row HZ19.out
  have HB19 := Lib.hid ((hb.block _ lB18).trans HB18.out)
  have lB19 := lt_row HB19.out
  have HG19 := Lib.hid ((hb.block _ lG18).trans HG18.out)
  have lG19 := lt_row HG19.out
  have HQ19 := Lib.hid ((hb.block _ lQ18).trans HQ18.out)
  have lQ19 := lt_row HQ19.out
  have HBL19 := Lib.hid (HBL18.out.trans (hb.mono HBL18.out.size))
  have z19 := HBL19.out.size
  clear hb z18 lE18 lF18 lA18 lZ18 lB18 lG18 lQ18
  go_wp2_with fail
  rw [HDZL.out]
  refine (WA.out w19 (HV.out.below HBL19.out)).mono ?_
  rintro e w20 ⟨rfl, hb⟩
  have HE20 := Lib.hid ((hb.block _ lE19).trans HE19.out)
  have lE20 := lt_row HE20.out
  have HF20 := Lib.hid ((hb.block _ lF19).trans HF19.out)
  have lF20 := lt_row HF20.out
  have HA20 := Lib.hid ((hb.block _ lA19).trans HA19.out)
  have lA20 := lt_row HA20.out
  have HZ20 := Lib.hid ((hb.block _ lZ19).trans HZ19.out)
  have lZ20 := lt_row HZ20.out
  have HB20 := Lib.hid ((hb.block _ lB19).trans HB19.out)
  have lB20 := lt_row HB20.out
  have HG20 := Lib.hid ((hb.block _ lG19).trans HG19.out)
  have lG20 := lt_row HG20.out
  have HQ20 := Lib.hid ((hb.block _ lQ19).trans HQ19.out)
  have lQ20 := lt_row HQ20.out
  have HBL20 := Lib.hid (HBL19.out.trans (hb.mono HBL19.out.size))
  have z20 := HBL20.out.size
  clear hb z19 lE19 lF19 lA19 lZ19 lB19 lG19 lQ19
  go_wp2
  go_ret
  exact ⟨rfl, HBL20.out⟩

end Go.Proofs.YtdmonfimdinkeaaGreatDoor.DlQ
