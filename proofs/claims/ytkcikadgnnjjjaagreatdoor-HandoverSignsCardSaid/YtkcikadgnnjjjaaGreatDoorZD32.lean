/-
  WHAT IS PROVED: the statements' own check of the deals answers true. whether any entry, head, or deal is verified by any book, by the document. Condition: what each theorem names.
-/
import Derived.Test.YtkcikadgnnjjjaaGreatDoorS0
import Derived.Test.YtkcikadgnnjjjaaGreatDoorZD31
set_option linter.unusedVariables false
set_option linter.unusedSimpArgs false
set_option maxRecDepth 100000
set_option maxHeartbeats 4000000
namespace Go.Proofs.YtkcikadgnnjjjaaGreatDoor.DlQ
open Go Go.RowKit Go.Shelf OctetS IdentS EntS OctG IdentP EntP EventC ShaA Steps KeyA KeyS KeyI KeyK TreeA EntK BookA EntL WireS WireT WireD DlV DlT DlL KeyG
open EntQ (ring_below)
attribute [-go_sem] run_equalIn_agg
theorem lives_ok (w : World) (hv : VarsD w) (hk : VarsH w) : Calls Tryz.prog 20 #[] w (RB (.bool true) w) := by
 obtain ⟨D0, hD0⟩ := nXe (dA 1 nB)
 have hD0n : D0.size = 7 := by rw [hD0]; exact rfl
 have HD0S : Hid ((Tryz.prog.info? 56).map (·.size) = some D0.size) := lh (by rw [hD0n]; kernel_rfl)
 have HD0N : Hid (7 = D0.size) := lh hD0n.symm
 have HD0O : Hid (D0.all (·.oneCell') = true) := lh (by rw [hD0]; exact (by simp [dA, dlA, dlZ, Value.oneCell']))
 obtain ⟨DF, hDF⟩ := nXe (dA 1 gD)
 have hDFn : DF.size = 7 := by rw [hDF]; exact rfl
 have HDFS : Hid ((Tryz.prog.info? 56).map (·.size) = some DF.size) := lh (by rw [hDFn]; kernel_rfl)
 have HDFN : Hid (7 = DF.size) := lh hDFn.symm
 have HDFO : Hid (DF.all (·.oneCell') = true) := lh (by rw [hDF]; exact (by simp [dA, dlA, dlZ, Value.oneCell']))
 obtain ⟨DA, hDA⟩ := nXe (dA 2 nB)
 have hDAn : DA.size = 7 := by rw [hDA]; exact rfl
 have HDAS : Hid ((Tryz.prog.info? 56).map (·.size) = some DA.size) := lh (by rw [hDAn]; kernel_rfl)
 have HDAN : Hid (7 = DA.size) := lh hDAn.symm
 have HDAO : Hid (DA.all (·.oneCell') = true) := lh (by rw [hDA]; exact (by simp [dA, dlA, dlZ, Value.oneCell']))
 obtain ⟨DZ, hDZ⟩ := nXe (dlZ)
 have hDZn : DZ.size = 7 := by rw [hDZ]; exact rfl
 have HDZS : Hid ((Tryz.prog.info? 56).map (·.size) = some DZ.size) := lh (by rw [hDZn]; kernel_rfl)
 have HDZN : Hid (7 = DZ.size) := lh hDZn.symm
 have HDZO : Hid (DZ.all (·.oneCell') = true) := lh (by rw [hDZ]; exact (by simp [dA, dlA, dlZ, Value.oneCell']))
 obtain ⟨C, hC⟩ := nXe ((rootK [115] 1).A)
 have hCn : C.size = 32 := by rw [hC]; exact H32.size _
 have HCS : Hid ((Tryz.prog.info? 25).map (·.size) = some C.size) := lh (by rw [hCn]; kernel_rfl)
 have HCN : Hid (32 = C.size) := lh hCn.symm
 have HCO : Hid (C.all (·.oneCell') = true) := lh (by rw [hC]; exact H32.one _)
 have hDZL : (#[.int .u8 0, .string ⟨#[]⟩, .int .i64 0, .int .i64 0, .int .i64 0, .int .i64 0, .string ⟨#[]⟩] : Array Value) = DZ := by rw [hDZ]; rfl
 have hD0L : (#[.int .u8 1, .string ⟨#[33, 104, 97, 108, 108, 58, 48]⟩, .int .i64 1, .int .i64 5, .int .i64 2, .int .i64 1, .string ⟨#[]⟩] : Array Value) = D0 := by rw [hD0]; kernel_rfl
 have hCL : C = rootL := by rw [hC]; exact root_A
 have c0 : DA[0]? = some (.int .u8 2) := by rw [hDA]; rfl
 have c5 : DA[5]? = some (.int .i64 1) := by rw [hDA]; rfl
 have c6 : DA[6]? = some (.string ⟨#[]⟩) := by rw [hDA]; rfl
 have hq : ∀ w, (Op.equalIn 10000 56 (.agg DF) (.agg DF)).run Tryz.prog w = .ok true w := by rw [hDF]; exact fun w => eq_self (k := 1) (r := rB) (ep := 1) (ix := 5) (hub := 2) (next := 1) (s := gD) rfl w
 have hGE := guardDl
 have V3 := DlL.Sign_s
 have V4 := DlL.Ring_Root
 have V5 := DlL.Bytes_s
 have V6 := DlL.Parse_s
 have V7 := DlL.Parse_more
 have V8 := DlL.Verify_1
 have V9 := DlL.Verify_2
 have VA := DlL.Check_s
 have VB := DlL.Answer_1
 have VC := DlL.Answer_2
 have VD := DlL.Fits_1
 have VE := DlL.Fits_2
 rw [← hD0] at V3
 rw [← hDF] at V3 V5 V6 V8 VB VD VE
 rw [← hDA] at VB VC V9 VD VE
 rw [← hDZ] at V7 VA VC
 rw [← hC] at V4
 obtain ⟨ss, hss⟩ := nXe (sD)
 have hsz : ss.size ≤ 20000 := by rw [hss]; exact sD_size
 rw [← hss] at V5 V6 V7
 obtain ⟨GA, hGA⟩ := nXe (gr.A)
 have hGAn : GA.size = 36 := by rw [hGA]; unfold Gr'.A; rw [List.size_toArray, grF.len]
 have hGAc : GA.toList = gr.cs := by rw [hGA]; rfl
 have hGAb : Tryz.prog.built 66 [(0, .int .i64 2), (2, .int .i64 9), (3, .int .i64 1), (4, .agg C)] = some GA := by rw [hCL, hGA]; unfold Gr'.A Gr'.cs gr; rw [rootK_l, byV_bN, KeyN.root_s]; kernel_rfl
 have W3 := lh V3
 have W4 := lh V4
 have W5 := lh V5
 have W6 := lh V6
 have W7 := lh V7
 have W8 := lh V8
 have W9 := lh V9
 have WA := lh VA
 have WB := lh VB
 have WC := lh VC
 have WD := lh VD
 have WE := lh VE
 have HD0L := lh hD0L
 have HDZL := lh hDZL
 have Hc0 := lh c0
 have Hc5 := lh c5
 have Hc6 := lh c6
 have HGAn := lh hGAn
 have HGAc' := lh (show GA.toList = [gr].flatMap Gr'.cs by rw [hGAc]; simp)
 have HGAb := lh hGAb
 have Hq := lh hq
 have HGE := lh hGE
 have HSZ := lh hsz
 have HV := lh hv
 have HK := lh hk
 clear hD0L hDZL c0 c5 c6 hq hGE hGAc hGAb hGA hCL hD0 hDF hDA hDZ hC hss hsz hv hk V3 V4 V5 V6 V7 V8 V9 VA VB VC VD VE hD0n hDFn hDAn hDZn hCn
 obtain ⟨w0, rfl⟩ : ∃ w0 : World, w0 = w := ⟨_, rfl⟩
 have HBL0 := lh (Below.refl w0.heap.size w0)
 have z0 := HBL0.out.size
 go_enter Tryz.func20, Tryz.ntmps20
 skip
 go_wp2_with (first | (refine wpList_store_rowA rfl _ _ _ rfl w0.heap.size D0 rfl (by rw [← HD0L.out]; rfl) _ _ (heap_new _ _) HD0S.out (by rw [← HD0N.out]; rfl) HD0O.out ?_) | fail)
 intro u1 hu1
 have hb : Below w0.heap.size w0 u1 := by rw [hu1.out]; exact below_row bAx (Nat.le_refl _) _
 have hy : u1.heap[w0.heap.size]? = some (.cells D0 56 (0, 0)) := by rw [hu1.out]; exact setRow_at (heap_new _ _)
 clear hu1
 obtain ⟨w1, hww⟩ : ∃ w', w' = u1 := ⟨_, rfl⟩
 rw [← hww] at hb hy ⊢
 clear hww
 obtain ⟨BE, hBE⟩ := nXe (w0.heap.size)
 rw [← hBE] at hy ⊢
 have gE : w0.heap.size ≤ BE := by omega
 clear hBE
 have Hyn := lh hy
 clear hy
 have HBL1 := tbB HBL0 hb
 have z1 := HBL1.out.size
 clear hb z0 
 have HE1 := lh Hyn.out
 have lE1 := lt_row HE1.out
 clear Hyn
 go_wp2_with fail
 go_wp2_with fail
 refine (Make_s w1 (HK.out.below HBL1.out)).mono ?_
 rintro e w2 ⟨R, v, rfl, hR, hb⟩
 have hRg := hR.ge
 have hRl := lt_row hR.row
 have HR2 := lh hR
 clear hR
 have lE_ := lE1
 have HE2 := lh ((hb.block _ lE1).trans HE1.out)
 have lE2 := lt_row HE2.out
 have HBL2 := tbB HBL1 hb
 have z2 := HBL2.out.size
 clear hb z1 lE1
 go_wp2_with (first | (refine wpList_load_row rfl _ _ rfl BE rfl _ D0 (0, 0) _ HE2.out Tryz.underlying56 rfl HD0S.out ?_) | fail)
 refine (W3.out w1 w2 R v HR2.out (HK.out.below HBL2.out) (HV.out.below HBL2.out)).mono ?_
 rintro e w3 ⟨rfl, hRn, hE⟩
 have HE3 := lh (hE.blockOf HE2.out (fun h => by omega))
 have lE3 := lt_row HE3.out
 have HBL3 := lh (Bl.ext HBL2.out hE (fun k h1 h => by omega))
 have z3 := HBL3.out.size
 clear hE z2 lE2
 have HR3 := lh hRn
 clear hRn
 go_wp2_with (first | (refine wpList_store_rowA rfl _ _ _ rfl w3.heap.size DF rfl rfl _ _ (heap_new _ _) HDFS.out (by rw [← HDFN.out]; rfl) HDFO.out ?_) | fail)
 intro u1 hu1
 have hb : Below w3.heap.size w3 u1 := by rw [hu1.out]; exact below_row bAx (Nat.le_refl _) _
 have hy : u1.heap[w3.heap.size]? = some (.cells DF 56 (0, 0)) := by rw [hu1.out]; exact setRow_at (heap_new _ _)
 clear hu1
 obtain ⟨w4, hww⟩ : ∃ w', w' = u1 := ⟨_, rfl⟩
 rw [← hww] at hb hy ⊢
 clear hww
 obtain ⟨BF, hBF⟩ := nXe (w3.heap.size)
 rw [← hBF] at hy ⊢
 have gF : w0.heap.size ≤ BF := by omega
 have hEF : BE < BF := by have := lE3; omega
 have hRF : R < BF := by have := lt_row HR3.out.row; omega
 clear hBF
 have Hyn := lh hy
 clear hy
 have HE4 := lh ((hb.block _ lE3).trans HE3.out)
 have lE4 := lt_row HE4.out
 have HR4 := lh (ring_below HR3.out hb)
 have HBL4 := tbB HBL3 hb
 have z4 := HBL4.out.size
 clear hb z3 lE3
 have HF4 := lh Hyn.out
 have lF4 := lt_row HF4.out
 clear Hyn
 go_wp2_with (first | (refine wpList_load_row rfl _ _ rfl BF rfl _ DF (0, 0) _ HF4.out Tryz.underlying56 rfl HDFS.out ?_) | fail)
 refine (WB.out w4 (HV.out.below HBL4.out)).mono ?_
 rintro e w5 ⟨rfl, hb⟩
 have HE5 := lh ((hb.block _ lE4).trans HE4.out)
 have lE5 := lt_row HE5.out
 have HF5 := lh ((hb.block _ lF4).trans HF4.out)
 have lF5 := lt_row HF5.out
 have HR5 := lh (ring_below HR4.out hb)
 have HBL5 := tbB HBL4 hb
 have z5 := HBL5.out.size
 clear hb z4 lE4 lF4
 go_wp2_with (first | (refine wpList_store_rowA rfl _ _ _ rfl w5.heap.size DA rfl rfl _ _ (heap_new _ _) HDAS.out (by rw [← HDAN.out]; rfl) HDAO.out ?_) | fail)
 intro u1 hu1
 have hb : Below w5.heap.size w5 u1 := by rw [hu1.out]; exact below_row bAx (Nat.le_refl _) _
 have hy : u1.heap[w5.heap.size]? = some (.cells DA 56 (0, 0)) := by rw [hu1.out]; exact setRow_at (heap_new _ _)
 clear hu1
 obtain ⟨w6, hww⟩ : ∃ w', w' = u1 := ⟨_, rfl⟩
 rw [← hww] at hb hy ⊢
 clear hww
 obtain ⟨BA, hBA⟩ := nXe (w5.heap.size)
 rw [← hBA] at hy ⊢
 have gA : w0.heap.size ≤ BA := by omega
 have hFA : BF < BA := by have := lF5; omega
 clear hBA
 have Hyn := lh hy
 clear hy
 have HE6 := lh ((hb.block _ lE5).trans HE5.out)
 have lE6 := lt_row HE6.out
 have HF6 := lh ((hb.block _ lF5).trans HF5.out)
 have lF6 := lt_row HF6.out
 have HR6 := lh (ring_below HR5.out hb)
 have HBL6 := tbB HBL5 hb
 have z6 := HBL6.out.size
 clear hb z5 lE5 lF5
 have HA6 := lh Hyn.out
 have lA6 := lt_row HA6.out
 clear Hyn
 go_wp2_with (first | (refine wpList_load_row rfl _ _ rfl BA rfl _ DA (0, 0) _ HA6.out Tryz.underlying56 rfl HDAS.out ?_) | fail)
 refine (WC.out w6 (HV.out.below HBL6.out)).mono ?_
 rintro e w7 ⟨rfl, hb⟩
 have HE7 := lh ((hb.block _ lE6).trans HE6.out)
 have lE7 := lt_row HE7.out
 have HF7 := lh ((hb.block _ lF6).trans HF6.out)
 have lF7 := lt_row HF7.out
 have HA7 := lh ((hb.block _ lA6).trans HA6.out)
 have lA7 := lt_row HA7.out
 have HR7 := lh (ring_below HR6.out hb)
 have HBL7 := tbB HBL6 hb
 have z7 := HBL7.out.size
 clear hb z6 lE6 lF6 lA6
 go_wp2_with (first | (refine wpList_store_rowA rfl _ _ _ rfl w7.heap.size DZ rfl rfl _ _ (heap_new _ _) HDZS.out (by rw [← HDZN.out]; rfl) HDZO.out ?_) | fail)
 intro u1 hu1
 have hb : Below w7.heap.size w7 u1 := by rw [hu1.out]; exact below_row bAx (Nat.le_refl _) _
 have hy : u1.heap[w7.heap.size]? = some (.cells DZ 56 (0, 0)) := by rw [hu1.out]; exact setRow_at (heap_new _ _)
 clear hu1
 obtain ⟨w8, hww⟩ : ∃ w', w' = u1 := ⟨_, rfl⟩
 rw [← hww] at hb hy ⊢
 clear hww
 obtain ⟨BZ, hBZ⟩ := nXe (w7.heap.size)
 rw [← hBZ] at hy ⊢
 have gZ : w0.heap.size ≤ BZ := by omega
 clear hBZ
 have Hyn := lh hy
 clear hy
 have HE8 := lh ((hb.block _ lE7).trans HE7.out)
 have lE8 := lt_row HE8.out
 have HF8 := lh ((hb.block _ lF7).trans HF7.out)
 have lF8 := lt_row HF8.out
 have HA8 := lh ((hb.block _ lA7).trans HA7.out)
 have lA8 := lt_row HA8.out
 have HR8 := lh (ring_below HR7.out hb)
 have HBL8 := tbB HBL7 hb
 have z8 := HBL8.out.size
 clear hb z7 lE7 lF7 lA7
 have HZ8 := lh Hyn.out
 have lZ8 := lt_row HZ8.out
 clear Hyn
 go_wp2_with fail
 refine (W4.out w1 w8 R 1 v HR8.out).mono ?_
 rintro e w9 ⟨rfl, hb⟩
 have HE9 := lh ((hb.block _ lE8).trans HE8.out)
 have lE9 := lt_row HE9.out
 have HF9 := lh ((hb.block _ lF8).trans HF8.out)
 have lF9 := lt_row HF9.out
 have HA9 := lh ((hb.block _ lA8).trans HA8.out)
 have lA9 := lt_row HA9.out
 have HZ9 := lh ((hb.block _ lZ8).trans HZ8.out)
 have lZ9 := lt_row HZ9.out
 have HR9 := lh (ring_below HR8.out hb)
 have HBL9 := tbB HBL8 hb
 have z9 := HBL9.out.size
 clear hb z8 lE8 lF8 lA8 lZ8
 go_wp2_with (first | (refine EntQ.wpList_buildC rfl 66 _ rfl GA (by first | exact HGAb.out | (go_simp; exact HGAb.out)) ?_) | (refine wpList_load_row rfl _ _ rfl BF rfl _ DF (0, 0) _ (heap_at HF9.out _) Tryz.underlying56 rfl HDFS.out ?_) | fail)
 rw [EntQ.fold_any #[.int .i64 0, .int .i64 0, .int .i64 0, .int .i64 0, .int .u8 0, .int .u8 0, .int .u8 0, .int .u8 0, .int .u8 0, .int .u8 0, .int .u8 0, .int .u8 0, .int .u8 0, .int .u8 0, .int .u8 0, .int .u8 0, .int .u8 0, .int .u8 0, .int .u8 0, .int .u8 0, .int .u8 0, .int .u8 0, .int .u8 0, .int .u8 0, .int .u8 0, .int .u8 0, .int .u8 0, .int .u8 0, .int .u8 0, .int .u8 0, .int .u8 0, .int .u8 0, .int .u8 0, .int .u8 0, .int .u8 0, .int .u8 0] GA 36 rfl HGAn.out]
 obtain ⟨w10, hww⟩ : ∃ w', w' = w9.alloc (.cells GA 66) := ⟨_, rfl⟩
 rw [← hww]
 have hb : Below w9.heap.size w9 w10 := by rw [hww]; exact bAx
 have hy : w10.heap[w9.heap.size]? = some (.cells GA 66 (0, 0)) := by rw [hww]; exact heap_new _ _
 clear hww
 obtain ⟨BB, hBB⟩ := nXe (w9.heap.size)
 rw [← hBB] at hy ⊢
 have hFB : BF < BB := by have := lF9; omega
 clear hBB
 have Hyn := lh hy
 clear hy
 have HE10 := lh ((hb.block _ lE9).trans HE9.out)
 have lE10 := lt_row HE10.out
 have HF10 := lh ((hb.block _ lF9).trans HF9.out)
 have lF10 := lt_row HF10.out
 have HA10 := lh ((hb.block _ lA9).trans HA9.out)
 have lA10 := lt_row HA10.out
 have HZ10 := lh ((hb.block _ lZ9).trans HZ9.out)
 have lZ10 := lt_row HZ10.out
 have HBL10 := tbB HBL9 hb
 have z10 := HBL10.out.size
 clear hb z9 lE9 lF9 lA9 lZ9
 have HB10 := lh Hyn.out
 have lB10 := lt_row HB10.out
 clear Hyn
 refine (W5.out w10 (HV.out.below HBL10.out)).mono ?_
 rintro e w11 ⟨rfl, hb⟩
 have HE11 := lh ((hb.block _ lE10).trans HE10.out)
 have lE11 := lt_row HE11.out
 have HF11 := lh ((hb.block _ lF10).trans HF10.out)
 have lF11 := lt_row HF11.out
 have HA11 := lh ((hb.block _ lA10).trans HA10.out)
 have lA11 := lt_row HA11.out
 have HZ11 := lh ((hb.block _ lZ10).trans HZ10.out)
 have lZ11 := lt_row HZ11.out
 have HB11 := lh ((hb.block _ lB10).trans HB10.out)
 have lB11 := lt_row HB11.out
 have HBL11 := tbB HBL10 hb
 have z11 := HBL11.out.size
 clear hb z10 lE10 lF10 lA10 lZ10 lB10
 go_wp2_with fail
 refine (W6.out w11 (HV.out.below HBL11.out)).mono ?_
 rintro e w12 ⟨rfl, hb⟩
 have HE12 := lh ((hb.block _ lE11).trans HE11.out)
 have lE12 := lt_row HE12.out
 have HF12 := lh ((hb.block _ lF11).trans HF11.out)
 have lF12 := lt_row HF12.out
 have HA12 := lh ((hb.block _ lA11).trans HA11.out)
 have lA12 := lt_row HA12.out
 have HZ12 := lh ((hb.block _ lZ11).trans HZ11.out)
 have lZ12 := lt_row HZ12.out
 have HB12 := lh ((hb.block _ lB11).trans HB11.out)
 have lB12 := lt_row HB12.out
 have HBL12 := tbB HBL11 hb
 have z12 := HBL12.out.size
 clear hb z11 lE11 lF11 lA11 lZ11 lB11
 go_wp2_with (first | (refine wpList_store_rowA rfl _ _ _ rfl w12.heap.size DF rfl rfl _ _ (heap_new _ _) HDFS.out (by rw [← HDFN.out]; rfl) HDFO.out ?_) | fail)
 intro u1 hu1
 have hb : Below w12.heap.size w12 u1 := by rw [hu1.out]; exact below_row bAx (Nat.le_refl _) _
 have hy : u1.heap[w12.heap.size]? = some (.cells DF 56 (0, 0)) := by rw [hu1.out]; exact setRow_at (heap_new _ _)
 clear hu1
 obtain ⟨w13, hww⟩ : ∃ w', w' = u1 := ⟨_, rfl⟩
 rw [← hww] at hb hy ⊢
 clear hww
 obtain ⟨BG, hBG⟩ := nXe (w12.heap.size)
 rw [← hBG] at hy ⊢
 have gG : w0.heap.size ≤ BG := by omega
 have hFG : BF < BG := by have := lF12; omega
 clear hBG
 have Hyn := lh hy
 clear hy
 have HE13 := lh ((hb.block _ lE12).trans HE12.out)
 have lE13 := lt_row HE13.out
 have HF13 := lh ((hb.block _ lF12).trans HF12.out)
 have lF13 := lt_row HF13.out
 have HA13 := lh ((hb.block _ lA12).trans HA12.out)
 have lA13 := lt_row HA13.out
 have HZ13 := lh ((hb.block _ lZ12).trans HZ12.out)
 have lZ13 := lt_row HZ13.out
 have HB13 := lh ((hb.block _ lB12).trans HB12.out)
 have lB13 := lt_row HB13.out
 have HBL13 := tbB HBL12 hb
 have z13 := HBL13.out.size
 clear hb z12 lE12 lF12 lA12 lZ12 lB12
 have HG13 := lh Hyn.out
 have lG13 := lt_row HG13.out
 clear Hyn
 have hszz := HSZ.out
 go_wp2_with fail
 refine (W7.out w13 (HV.out.below HBL13.out)).mono ?_
 rintro e w14 ⟨rfl, hb⟩
 have HE14 := lh ((hb.block _ lE13).trans HE13.out)
 have lE14 := lt_row HE14.out
 have HF14 := lh ((hb.block _ lF13).trans HF13.out)
 have lF14 := lt_row HF14.out
 have HA14 := lh ((hb.block _ lA13).trans HA13.out)
 have lA14 := lt_row HA14.out
 have HZ14 := lh ((hb.block _ lZ13).trans HZ13.out)
 have lZ14 := lt_row HZ14.out
 have HB14 := lh ((hb.block _ lB13).trans HB13.out)
 have lB14 := lt_row HB14.out
 have HG14 := lh ((hb.block _ lG13).trans HG13.out)
 have lG14 := lt_row HG14.out
 have HBL14 := tbB HBL13 hb
 have z14 := HBL14.out.size
 clear hb z13 lE13 lF13 lA13 lZ13 lB13 lG13
 go_wp2_with (first | (refine wpList_store_rowA rfl _ _ _ rfl w14.heap.size DZ rfl rfl _ _ (heap_new _ _) HDZS.out (by rw [← HDZN.out]; rfl) HDZO.out ?_) | fail)
 intro u1 hu1
 have hb : Below w14.heap.size w14 u1 := by rw [hu1.out]; exact below_row bAx (Nat.le_refl _) _
 have hy : u1.heap[w14.heap.size]? = some (.cells DZ 56 (0, 0)) := by rw [hu1.out]; exact setRow_at (heap_new _ _)
 clear hu1
 obtain ⟨w15, hww⟩ : ∃ w', w' = u1 := ⟨_, rfl⟩
 rw [← hww] at hb hy ⊢
 clear hww
 obtain ⟨BQ, hBQ⟩ := nXe (w14.heap.size)
 rw [← hBQ] at hy ⊢
 have gQ : w0.heap.size ≤ BQ := by omega
 clear hBQ
 have Hyn := lh hy
 clear hy
 have HE15 := lh ((hb.block _ lE14).trans HE14.out)
 have lE15 := lt_row HE15.out
 have HF15 := lh ((hb.block _ lF14).trans HF14.out)
 have lF15 := lt_row HF15.out
 have HA15 := lh ((hb.block _ lA14).trans HA14.out)
 have lA15 := lt_row HA15.out
 have HZ15 := lh ((hb.block _ lZ14).trans HZ14.out)
 have lZ15 := lt_row HZ15.out
 have HB15 := lh ((hb.block _ lB14).trans HB14.out)
 have lB15 := lt_row HB15.out
 have HG15 := lh ((hb.block _ lG14).trans HG14.out)
 have lG15 := lt_row HG15.out
 have HBL15 := tbB HBL14 hb
 have z15 := HBL15.out.size
 clear hb z14 lE14 lF14 lA14 lZ14 lB14 lG14
 have HQ15 := lh Hyn.out
 have lQ15 := lt_row HQ15.out
 clear Hyn
 obtain ⟨cy, fy⟩ := row_facts HA15.out
 have kA0 := (cy 0).trans Hc0.out
 have kA5 := (cy 5).trans Hc5.out
 have kA6 := (cy 6).trans Hc6.out
 clear cy fy
 have hq := Hq.out
 have hGE := HGE.out
 have kzE : ((⟨#[]⟩ : ByteArray).toList == []) = true := by decide +kernel
 iterate 8 go_step
 simp only [List.append_eq, List.cons_append, List.nil_append]
 go_wp2_with (first | (refine WireT.wpList_load_rowG (by first | rfl | kernel_rfl) _ _ rfl BG rfl _ DF (0, 0) _ HG15.out Tryz.underlying56 rfl HDFS.out ?_) | (refine WireT.wpList_load_rowG (by first | rfl | kernel_rfl) _ _ rfl BF rfl _ DF (0, 0) _ HF15.out Tryz.underlying56 rfl HDFS.out ?_) | (refine WireT.wpList_load_rowG (by first | rfl | kernel_rfl) _ _ rfl BA rfl _ DA (0, 0) _ HA15.out Tryz.underlying56 rfl HDAS.out ?_) | fail)
 clear kA0 kA5 kA6 hq hGE kzE
 refine (W8.out w15 _ (HK.out.below HBL15.out) (HV.out.below HBL15.out) (by rw [← HGAc'.out]; exact EntQ.sl_one HB15.out HGAn.out)).mono ?_
 rintro e w16 ⟨rfl, hb⟩
 have HE16 := lh ((hb.block _ lE15).trans HE15.out)
 have lE16 := lt_row HE16.out
 have HF16 := lh ((hb.block _ lF15).trans HF15.out)
 have lF16 := lt_row HF16.out
 have HA16 := lh ((hb.block _ lA15).trans HA15.out)
 have lA16 := lt_row HA16.out
 have HZ16 := lh ((hb.block _ lZ15).trans HZ15.out)
 have lZ16 := lt_row HZ16.out
 have HB16 := lh ((hb.block _ lB15).trans HB15.out)
 have lB16 := lt_row HB16.out
 have HG16 := lh ((hb.block _ lG15).trans HG15.out)
 have lG16 := lt_row HG16.out
 have HQ16 := lh ((hb.block _ lQ15).trans HQ15.out)
 have lQ16 := lt_row HQ16.out
 have HBL16 := tbB HBL15 hb
 have z16 := HBL16.out.size
 clear hb z15 lE15 lF15 lA15 lZ15 lB15 lG15 lQ15
 go_wp2_with (first | (refine WireT.wpList_load_rowG (by first | rfl | kernel_rfl) _ _ rfl BG rfl _ DF (0, 0) _ HG16.out Tryz.underlying56 rfl HDFS.out ?_) | (refine WireT.wpList_load_rowG (by first | rfl | kernel_rfl) _ _ rfl BF rfl _ DF (0, 0) _ HF16.out Tryz.underlying56 rfl HDFS.out ?_) | (refine WireT.wpList_load_rowG (by first | rfl | kernel_rfl) _ _ rfl BA rfl _ DA (0, 0) _ HA16.out Tryz.underlying56 rfl HDAS.out ?_) | fail)
 refine (W9.out w16 _ (HK.out.below HBL16.out) (HV.out.below HBL16.out) (by rw [← HGAc'.out]; exact EntQ.sl_one HB16.out HGAn.out)).mono ?_
 rintro e w17 ⟨rfl, hb⟩
 have HE17 := lh ((hb.block _ lE16).trans HE16.out)
 have lE17 := lt_row HE17.out
 have HF17 := lh ((hb.block _ lF16).trans HF16.out)
 have lF17 := lt_row HF17.out
 have HA17 := lh ((hb.block _ lA16).trans HA16.out)
 have lA17 := lt_row HA17.out
 have HZ17 := lh ((hb.block _ lZ16).trans HZ16.out)
 have lZ17 := lt_row HZ17.out
 have HB17 := lh ((hb.block _ lB16).trans HB16.out)
 have lB17 := lt_row HB17.out
 have HG17 := lh ((hb.block _ lG16).trans HG16.out)
 have lG17 := lt_row HG17.out
 have HQ17 := lh ((hb.block _ lQ16).trans HQ16.out)
 have lQ17 := lt_row HQ17.out
 have HBL17 := tbB HBL16 hb
 have z17 := HBL17.out.size
 clear hb z16 lE16 lF16 lA16 lZ16 lB16 lG16 lQ16
 go_wp2_with (first | (refine WireT.wpList_load_rowG (by first | rfl | kernel_rfl) _ _ rfl BG rfl _ DF (0, 0) _ HG17.out Tryz.underlying56 rfl HDFS.out ?_) | (refine WireT.wpList_load_rowG (by first | rfl | kernel_rfl) _ _ rfl BF rfl _ DF (0, 0) _ HF17.out Tryz.underlying56 rfl HDFS.out ?_) | (refine WireT.wpList_load_rowG (by first | rfl | kernel_rfl) _ _ rfl BA rfl _ DA (0, 0) _ HA17.out Tryz.underlying56 rfl HDAS.out ?_) | fail)
 refine (WD.out w17 (HV.out.below HBL17.out)).mono ?_
 rintro e w18 ⟨rfl, hb⟩
 have HE18 := lh ((hb.block _ lE17).trans HE17.out)
 have lE18 := lt_row HE18.out
 have HF18 := lh ((hb.block _ lF17).trans HF17.out)
 have lF18 := lt_row HF18.out
 have HA18 := lh ((hb.block _ lA17).trans HA17.out)
 have lA18 := lt_row HA18.out
 have HZ18 := lh ((hb.block _ lZ17).trans HZ17.out)
 have lZ18 := lt_row HZ18.out
 have HB18 := lh ((hb.block _ lB17).trans HB17.out)
 have lB18 := lt_row HB18.out
 have HG18 := lh ((hb.block _ lG17).trans HG17.out)
 have lG18 := lt_row HG18.out
 have HQ18 := lh ((hb.block _ lQ17).trans HQ17.out)
 have lQ18 := lt_row HQ18.out
 have HBL18 := tbB HBL17 hb
 have z18 := HBL18.out.size
 clear hb z17 lE17 lF17 lA17 lZ17 lB17 lG17 lQ17
 go_wp2_with (first | (refine WireT.wpList_load_rowG (by first | rfl | kernel_rfl) _ _ rfl BG rfl _ DF (0, 0) _ HG18.out Tryz.underlying56 rfl HDFS.out ?_) | (refine WireT.wpList_load_rowG (by first | rfl | kernel_rfl) _ _ rfl BF rfl _ DF (0, 0) _ HF18.out Tryz.underlying56 rfl HDFS.out ?_) | (refine WireT.wpList_load_rowG (by first | rfl | kernel_rfl) _ _ rfl BA rfl _ DA (0, 0) _ HA18.out Tryz.underlying56 rfl HDAS.out ?_) | fail)
 refine (WE.out w18 (HV.out.below HBL18.out)).mono ?_
 rintro e w19 ⟨rfl, hb⟩
 have HE19 := lh ((hb.block _ lE18).trans HE18.out)
 have lE19 := lt_row HE19.out
 have HF19 := lh ((hb.block _ lF18).trans HF18.out)
 have lF19 := lt_row HF19.out
 have HA19 := lh ((hb.block _ lA18).trans HA18.out)
 have lA19 := lt_row HA19.out
 have HZ19 := lh ((hb.block _ lZ18).trans HZ18.out)
 have lZ19 := lt_row HZ19.out
 have HB19 := lh ((hb.block _ lB18).trans HB18.out)
 have lB19 := lt_row HB19.out
 have HG19 := lh ((hb.block _ lG18).trans HG18.out)
 have lG19 := lt_row HG19.out
 have HQ19 := lh ((hb.block _ lQ18).trans HQ18.out)
 have lQ19 := lt_row HQ19.out
 have HBL19 := tbB HBL18 hb
 have z19 := HBL19.out.size
 clear hb z18 lE18 lF18 lA18 lZ18 lB18 lG18 lQ18
 go_wp2_with fail
 rw [HDZL.out]
 refine (WA.out w19 (HV.out.below HBL19.out)).mono ?_
 rintro e w20 ⟨rfl, hb⟩
 have HE20 := lh ((hb.block _ lE19).trans HE19.out)
 have lE20 := lt_row HE20.out
 have HF20 := lh ((hb.block _ lF19).trans HF19.out)
 have lF20 := lt_row HF20.out
 have HA20 := lh ((hb.block _ lA19).trans HA19.out)
 have lA20 := lt_row HA20.out
 have HZ20 := lh ((hb.block _ lZ19).trans HZ19.out)
 have lZ20 := lt_row HZ20.out
 have HB20 := lh ((hb.block _ lB19).trans HB19.out)
 have lB20 := lt_row HB20.out
 have HG20 := lh ((hb.block _ lG19).trans HG19.out)
 have lG20 := lt_row HG20.out
 have HQ20 := lh ((hb.block _ lQ19).trans HQ19.out)
 have lQ20 := lt_row HQ20.out
 have HBL20 := tbB HBL19 hb
 have z20 := HBL20.out.size
 clear hb z19 lE19 lF19 lA19 lZ19 lB19 lG19 lQ19
 go_wp2
 go_ret
 exact ⟨rfl, HBL20.out⟩
end Go.Proofs.YtkcikadgnnjjjaaGreatDoor.DlQ
namespace Go.Proofs.YtkcikadgnnjjjaaGreatDoor.EgD
open Go Go.RowKit Go.Shelf OctetS IdentS EntS OctP OctQ OctG IdentP EntP EventC ShaA Steps KeyA TreeA WireS WireT WireD DlV BookA BkF RkJ
theorem deal2_any (w : World) (p : Array Value) (k : Int) (r : ByteArray) (ep ix hub next : Int) (s : ByteArray) (hp : p = dlA k r ep ix hub next s) (hv : VarsD w) (hk0 : 0 ≤ k) (hk2 : k ≤ 255) (hr : r.size ≤ 140737488351232) (hs : s.size ≤ maxLen) (v : Value) (L : List Gr') (hb : Sl w v 36 L.length (L.flatMap Gr'.cs)) :
 Calls Tryz.prog 22 #[v, .agg p] w (KeyA.RB (.int .i64 (if checkD (dlOf k r ep ix hub next s) = true then verifyB L (if k = 1 then hub else next) ix (DlS.text (dlOf k r ep ix hub next s)) (bl s) else 2)) w) := by
 have hT := fun w (hv : VarsD w) => DlT.R_Text w p k r ep ix hub next s hp hv hk0 hk2 hr hs
 have hpi : (Tryz.prog.info? 56).map (·.size) = some p.size := by rw [show p.size = 7 by rw [hp]; rfl]; kernel_rfl
 have HI := lh hpi
 have p0 : p[0]? = some (.int .u8 k) := by rw [hp]; rfl
 have p3 : p[3]? = some (.int .i64 ix) := by rw [hp]; rfl
 have p4 : p[4]? = some (.int .i64 hub) := by rw [hp]; rfl
 have p5 : p[5]? = some (.int .i64 next) := by rw [hp]; rfl
 have p6 : p[6]? = some (.string s) := by rw [hp]; rfl
 obtain ⟨w0, hw0⟩ := nXe (w.alloc (.cells p 56))
 have hb0 : Below w.heap.size w w0 := by rw [hw0]; exact (Below.refl _ w).alloc (Nat.le_refl _) _
 have HX0 := lh (show w0.heap[w.heap.size]? = some (.cells p 56 (0, 0)) by rw [hw0]; exact heap_new _ _)
 have HBL0 := lh hb0
 have HW0 := lh hw0
 have hV := fun w' (hw : Below w.heap.size w w') (ht : (bsOf (DlS.text (dlOf k r ep ix hub next s))).size ≤ 140737488351232) => RkJ.Verify2_ok w' v L (if k = 1 then hub else next) ix (bsOf (DlS.text (dlOf k r ep ix hub next s))) s (hb.below hw) ht hs
 have HV0 := lh (hv.below hb0)
 clear hw0 hb0
 unfold DlS.textOf at hT
 cases hc : checkD (dlOf k r ep ix hub next s)
 ·rw [if_neg (by simp)]
  rw [hc, if_neg (by simp)] at hT
  have HT := lh hT
  clear hT hc hp hv hr hs hpi hb hV p0 p3 p4 p5 p6
  go_enter Tryz.func22, Tryz.ntmps22
  go_wp2_with (first | (rw [← HW0.out]; refine wpList_load_row rfl _ _ rfl w.heap.size rfl _ p (0, 0) _ HX0.out Tryz.underlying56 rfl HI.out ?_) | fail)
  refine (HT.out w0 HV0.out).mono ?_
  rintro e' w1 ⟨rfl, hb⟩
  have HBL1 := tbB HBL0 hb
  have HX1 := kpB hb HX0
  clear hb
  unfold whyOf
  go_wp2
  go_ret
  exact ⟨rfl, HBL1.out⟩
 ·rw [if_pos rfl]
  rw [hc, if_pos rfl] at hT
  have hlen : (bsOf (DlS.text (dlOf k r ep ix hub next s))).size ≤ 140737488351232 := by rw [size_bsOf]; have := DlT.dl_len (DlS.check_iff.1 hc); omega
  have hR := DlS.check_iff.1 hc
  obtain ⟨TX, hTX⟩ := nXe (bsOf (DlS.text (dlOf k r ep ix hub next s)))
  have hV2 := fun w' hw => hV w' hw hlen
  rw [bl_bsOf] at hV2
  obtain ⟨RES, hRES⟩ := nXe (verifyB L (if k = 1 then hub else next) ix (DlS.text (dlOf k r ep ix hub next s)) (bl s))
  rw [← hRES] at hV2 ⊢
  rw [← hTX] at hV2 hT
  have HT := lh hT
  have HVV := lh hV2
  have hix0 : 0 ≤ ix := hR.ix0
  have hix1 : ix ≤ 4096 := hR.ix1
  have hwr : IntKind.i64.wrap ix = ix := by rw [IntKind.wrap_i64]; omega
  have hkd : k = 1 ∨ k = 2 := hR.kind
  have HVV : Hid (∀ w', Below w.heap.size w w' → Calls Tryz.prog 35 #[v, .int .i64 (if k = 1 then hub else next), .int .i64 ix, .string TX, .string s] w' (KeyA.RB (.int .i64 RES) w')) := HVV
  clear hT hV hV2 hc hp hv hr hs hpi hb hlen hTX hRES hR
  rcases hkd with rfl | rfl
  ·skip
   go_enter Tryz.func22, Tryz.ntmps22
   go_wp2_with (first | (rw [← HW0.out]; refine wpList_load_row rfl _ _ rfl w.heap.size rfl _ p (0, 0) _ HX0.out Tryz.underlying56 rfl HI.out ?_) | fail)
   refine (HT.out w0 HV0.out).mono ?_
   rintro e' w1 ⟨rfl, hb⟩
   have HBL1 := tbB HBL0 hb
   have HX1 := kpB hb HX0
   clear hb
   have c0 : w1.cell? ⟨w.heap.size, 0, none⟩ = some (.int .u8 1) := (cell_row HX1.out).trans p0
   have c3 : w1.cell? ⟨w.heap.size, 3, none⟩ = some (.int .i64 ix) := (cell_row HX1.out).trans p3
   have c4 : w1.cell? ⟨w.heap.size, 4, none⟩ = some (.int .i64 hub) := (cell_row HX1.out).trans p4
   have c5 : w1.cell? ⟨w.heap.size, 5, none⟩ = some (.int .i64 next) := (cell_row HX1.out).trans p5
   have c6 : w1.cell? ⟨w.heap.size, 6, none⟩ = some (.string s) := (cell_row HX1.out).trans p6
   unfold whyOf
   go_wp2_with fail
   refine (HVV.out w1 HBL1.out).mono ?_
   rintro e' w2 ⟨rfl, hb⟩
   have HBL2 := tbB HBL1 hb
   clear hb
   go_wp2
   go_ret
   exact ⟨rfl, HBL2.out⟩
  ·skip
   go_enter Tryz.func22, Tryz.ntmps22
   go_wp2_with (first | (rw [← HW0.out]; refine wpList_load_row rfl _ _ rfl w.heap.size rfl _ p (0, 0) _ HX0.out Tryz.underlying56 rfl HI.out ?_) | fail)
   refine (HT.out w0 HV0.out).mono ?_
   rintro e' w1 ⟨rfl, hb⟩
   have HBL1 := tbB HBL0 hb
   have HX1 := kpB hb HX0
   clear hb
   have c0 : w1.cell? ⟨w.heap.size, 0, none⟩ = some (.int .u8 2) := (cell_row HX1.out).trans p0
   have c3 : w1.cell? ⟨w.heap.size, 3, none⟩ = some (.int .i64 ix) := (cell_row HX1.out).trans p3
   have c4 : w1.cell? ⟨w.heap.size, 4, none⟩ = some (.int .i64 hub) := (cell_row HX1.out).trans p4
   have c5 : w1.cell? ⟨w.heap.size, 5, none⟩ = some (.int .i64 next) := (cell_row HX1.out).trans p5
   have c6 : w1.cell? ⟨w.heap.size, 6, none⟩ = some (.string s) := (cell_row HX1.out).trans p6
   unfold whyOf
   go_wp2_with fail
   refine (HVV.out w1 HBL1.out).mono ?_
   rintro e' w2 ⟨rfl, hb⟩
   have HBL2 := tbB HBL1 hb
   clear hb
   go_wp2
   go_ret
   exact ⟨rfl, HBL2.out⟩
end Go.Proofs.YtkcikadgnnjjjaaGreatDoor.EgD
