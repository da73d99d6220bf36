/-
  WHAT IS PROVED: the statements' own check of the heads answers true; rows of heads that were read or parsed. Condition: what each theorem names.
-/
import Derived.Test.YtkcikadgnnjjjaaGreatDoorS0
import Derived.Test.YtkcikadgnnjjjaaGreatDoorZH44
set_option linter.unusedVariables false
set_option linter.unusedSimpArgs false
set_option maxRecDepth 100000
set_option maxHeartbeats 4000000
namespace Go.Proofs.YtkcikadgnnjjjaaGreatDoor.HdQ
open Go Go.RowKit Go.Shelf OctetS IdentS EntS OctG IdentP EntP EventC ShaA Steps KeyA KeyS KeyI KeyK TreeA EntK BookA EntL HdL WireT KeyG
open EntQ (ring_below)
attribute [-go_sem] run_equalIn_agg
theorem wpList_buildG {P : Program} {ops : Array Oper} {rest : List Oper} {o : Oper} {a : Act} {w : World} {Q : Exit → Act → World → Prop} (hw : Region.wanted o (yielded ops a.tmps) = true) (t : TypeId) (parts : Array (Nat × Operand)) (ho : o.op = .build t parts) (cells : Array Value)
 (hb : P.built t (parts.map fun (i, x) => (i, a.eval x)).toList = some cells) (h : wpList P ops Q rest (a.put o.dst (.agg cells)) w) : wpList P ops Q (o :: rest) a w := by
 unfold wpList
 rw [if_pos hw]
 exact .inl (wp_build t parts ho (by rw [hb]; rfl) (by rw [hb]; exact h))
theorem lives_ok (w : World) (hv : VarsI w) (hk : VarsH w) : Calls Tryz.prog 15 #[] w (RB (.bool true) w) := by
 obtain ⟨E0, hE0⟩ := nXe (eA 5 nB)
 have hE0n : E0.size = 37 := by rw [hE0]; exact WireT.entA_size z32_len
 have HE0S : Hid ((Tryz.prog.info? 27).map (·.size) = some E0.size) := lh (by rw [hE0n]; kernel_rfl)
 have HE0N : Hid (37 = E0.size) := lh hE0n.symm
 have HE0O : Hid (E0.all (·.oneCell') = true) := lh (by rw [hE0]; exact WireT.entA_one _ _ _ _ _ _)
 obtain ⟨H0, hH0⟩ := nXe (hA 1 nB)
 have hH0n : H0.size = 36 := by rw [hH0]; exact hA_size _ _
 have HH0S : Hid ((Tryz.prog.info? 47).map (·.size) = some H0.size) := lh (by rw [hH0n]; kernel_rfl)
 have HH0N : Hid (36 = H0.size) := lh hH0n.symm
 have HH0O : Hid (H0.all (·.oneCell') = true) := lh (by rw [hH0]; exact hA_one _ _)
 obtain ⟨HF, hHF⟩ := nXe (hA 1 gH)
 have hHFn : HF.size = 36 := by rw [hHF]; exact hA_size _ _
 have HHFS : Hid ((Tryz.prog.info? 47).map (·.size) = some HF.size) := lh (by rw [hHFn]; kernel_rfl)
 have HHFN : Hid (36 = HF.size) := lh hHFn.symm
 have HHFO : Hid (HF.all (·.oneCell') = true) := lh (by rw [hHF]; exact hA_one _ _)
 obtain ⟨H2, hH2⟩ := nXe (hA 2 gH)
 have hH2n : H2.size = 36 := by rw [hH2]; exact hA_size _ _
 have HH2S : Hid ((Tryz.prog.info? 47).map (·.size) = some H2.size) := lh (by rw [hH2n]; kernel_rfl)
 have HH2N : Hid (36 = H2.size) := lh hH2n.symm
 have HH2O : Hid (H2.all (·.oneCell') = true) := lh (by rw [hH2]; exact hA_one _ _)
 obtain ⟨HZ, hHZ⟩ := nXe (hdZ)
 have hHZn : HZ.size = 36 := by rw [hHZ]; exact (by rfl)
 have HHZS : Hid ((Tryz.prog.info? 47).map (·.size) = some HZ.size) := lh (by rw [hHZn]; kernel_rfl)
 have HHZN : Hid (36 = HZ.size) := lh hHZn.symm
 have HHZO : Hid (HZ.all (·.oneCell') = true) := lh (by rw [hHZ]; exact hdA_one _ _ _ _ _)
 obtain ⟨C, hC⟩ := nXe ((rootK [115] 1).A)
 have hCn : C.size = 32 := by rw [hC]; exact H32.size _
 have HCS : Hid ((Tryz.prog.info? 25).map (·.size) = some C.size) := lh (by rw [hCn]; kernel_rfl)
 have HCN : Hid (32 = C.size) := lh hCn.symm
 have HCO : Hid (C.all (·.oneCell') = true) := lh (by rw [hC]; exact H32.one _)
 obtain ⟨SR, hSR⟩ := nXe (smH.A)
 have hSRn : SR.size = 32 := by rw [hSR]; exact H32.size _
 have HSRS : Hid ((Tryz.prog.info? 25).map (·.size) = some SR.size) := lh (by rw [hSRn]; kernel_rfl)
 have HSRN : Hid (32 = SR.size) := lh hSRn.symm
 have HSRO : Hid (SR.all (·.oneCell') = true) := lh (by rw [hSR]; exact H32.one _)
 have hE0L : (#[.string ⟨#[33, 104, 97, 108, 108, 58, 48]⟩, .int .i64 1, .int .i64 5, .int .u8 0, .int .u8 0, .int .u8 0, .int .u8 0, .int .u8 0, .int .u8 0, .int .u8 0, .int .u8 0, .int .u8 0, .int .u8 0, .int .u8 0, .int .u8 0, .int .u8 0, .int .u8 0, .int .u8 0, .int .u8 0, .int .u8 0, .int .u8 0, .int .u8 0, .int .u8 0, .int .u8 0, .int .u8 0, .int .u8 0, .int .u8 0, .int .u8 0, .int .u8 0, .int .u8 0, .int .u8 0, .int .u8 0, .int .u8 0, .int .u8 0, .int .u8 0, .string ⟨#[120]⟩, .string ⟨#[]⟩] : Array Value) = E0 := by rw [hE0]; kernel_rfl
 have hHZL : (#[.string ⟨#[]⟩, .int .i64 0, .int .i64 0, .int .u8 0, .int .u8 0, .int .u8 0, .int .u8 0, .int .u8 0, .int .u8 0, .int .u8 0, .int .u8 0, .int .u8 0, .int .u8 0, .int .u8 0, .int .u8 0, .int .u8 0, .int .u8 0, .int .u8 0, .int .u8 0, .int .u8 0, .int .u8 0, .int .u8 0, .int .u8 0, .int .u8 0, .int .u8 0, .int .u8 0, .int .u8 0, .int .u8 0, .int .u8 0, .int .u8 0, .int .u8 0, .int .u8 0, .int .u8 0, .int .u8 0, .int .u8 0, .string ⟨#[]⟩] : Array Value) = HZ := by rw [hHZ]; kernel_rfl
 have hCL : C = rootL := by rw [hC]; exact root_A
 have hset : HF.setIfInBounds 1 (.int .i64 2) = H2 := by rw [hHF, hH2]; unfold hA hdA; rfl
 have c1 : HF[1]? = some (.int .i64 1) := by rw [hHF]; exact (hP 1 gH).c1
 have c2 : HF[2]? = some (.int .i64 5) := by rw [hHF]; exact (hP 1 gH).c2
 have cs : ∀ (j : Nat) (u : Value), SR.toList[j]? = some u → HF[3 + j]? = some u := by rw [hHF, hSR]; exact fun j u h => hA_sum 1 gH j u h
 have hq : ∀ w, (Op.equalIn 10000 47 (.agg H0) (.agg H0)).run Tryz.prog w = .ok true w := by rw [hH0]; exact eq_hd (hP 1 nB)
 have hqs : ∀ w, (Op.equalIn 10000 25 (.agg SR) (.agg SR)).run Tryz.prog w = .ok true w := by rw [hSR]; exact eq_hash smH
 have hrB : rB = ⟨#[33, 104, 97, 108, 108, 58, 48]⟩ := by kernel_rfl
 have hbs : Tryz.prog.built 47 [(0, .string ⟨#[33, 104, 97, 108, 108, 58, 48]⟩), (1, .int .i64 1), (2, .int .i64 5), (3, .agg SR)] = some H0 := by rw [hSR, hH0, ← hrB]; exact built_s
 have hGE := EqHd.guardHd
 have hGH := EqHash.guardHash
 have V1 := HdL.Of_s
 have V2 := HdL.Sum_s
 have V3 := HdL.Sign_s
 have V4 := Ring_Root
 have V5 := HdL.Bytes_s
 have V6 := HdL.Parse_s
 have V7 := HdL.Read_s
 have V8 := HdL.Verify_1
 have V9 := HdL.Verify_2
 have VA := HdL.Check_s
 rw [← hE0] at V1 V2
 rw [← hH0] at V1 V3
 rw [← hHF] at V3 V5 V6 V8
 rw [← hH2] at V9
 rw [← hHZ] at V7 VA
 rw [← hC] at V4
 rw [← hSR] at V2
 obtain ⟨ss, hss⟩ := nXe (sH)
 rw [← hss] at V5 V6 V7
 obtain ⟨GA, hGA⟩ := nXe (gr.A)
 have hGAn : GA.size = 36 := by rw [hGA]; unfold Gr'.A; rw [List.size_toArray, grF.len]
 have hGAc : GA.toList = gr.cs := by rw [hGA]; rfl
 have hGAb : Tryz.prog.built 66 [(0, .int .i64 2), (2, .int .i64 9), (3, .int .i64 1), (4, .agg C)] = some GA := by rw [hCL, hGA]; unfold Gr'.A Gr'.cs gr; rw [rootK_l, byV_bN, KeyN.root_s]; kernel_rfl
 have W1 := lh V1
 have W2 := lh V2
 have W3 := lh V3
 have W4 := lh V4
 have W5 := lh V5
 have W6 := lh V6
 have W7 := lh V7
 have W8 := lh V8
 have W9 := lh V9
 have WA := lh VA
 have HE0L := lh hE0L
 have HHZL := lh hHZL
 have Hset := lh hset
 have Hc1 := lh c1
 have Hc2 := lh c2
 have Hcs := lh cs
 have Hbs := lh hbs
 have HGAn := lh hGAn
 have HGAc' := lh (show GA.toList = [gr].flatMap Gr'.cs by rw [hGAc]; simp)
 have HGAb := lh hGAb
 have Hq := lh hq
 have Hqs := lh hqs
 have HGE := lh hGE
 have HGH := lh hGH
 have HV := lh hv
 have HK := lh hk
 clear hE0L hHZL hset c1 c2 cs hbs hrB hq hqs hGE hGH hGAc hGAb hGA hCL hE0 hH0 hHF hH2 hHZ hC hSR hss hv hk V1 V2 V3 V4 V5 V6 V7 V8 V9 VA hE0n hH0n hHFn hH2n hHZn hCn hSRn
 obtain ⟨w0, rfl⟩ : ∃ w0 : World, w0 = w := ⟨_, rfl⟩
 have HBL0 := lh (Below.refl w0.heap.size w0)
 have z0 := HBL0.out.size
 go_enter Tryz.func15, Tryz.ntmps15
 skip
 go_wp2_with (first | (refine wpList_store_rowA rfl _ _ _ rfl w0.heap.size E0 rfl (by rw [← HE0L.out]; rfl) _ _ (heap_new _ _) HE0S.out (by rw [← HE0N.out]; rfl) HE0O.out ?_) | fail)
 intro u1 hu1
 have hb : Below w0.heap.size w0 u1 := by rw [hu1.out]; exact below_row bAx (Nat.le_refl _) _
 have hy : u1.heap[w0.heap.size]? = some (.cells E0 27 (0, 0)) := by rw [hu1.out]; exact setRow_at (heap_new _ _)
 clear hu1
 obtain ⟨w1, hww⟩ : ∃ w', w' = u1 := ⟨_, rfl⟩
 rw [← hww] at hb hy ⊢
 clear hww
 obtain ⟨BE, hBE⟩ := nXe (w0.heap.size)
 rw [← hBE] at hy ⊢
 have gE : w0.heap.size ≤ BE := by omega
 clear hBE
 have Hyn := lh hy
 clear hy
 have HBL1 := tbB HBL0 hb
 have z1 := HBL1.out.size
 clear hb z0 
 have HE1 := lh Hyn.out
 have lE1 := lt_row HE1.out
 clear Hyn
 go_wp2_with fail
 obtain ⟨w2, hw2⟩ := nXe (w1.alloc (.cells #[.string ⟨#[115]⟩, .int .i64 1, .int .i64 0] 23))
 rw [← hw2]
 have hb : Below w1.heap.size w1 w2 := by rw [hw2]; exact bAx
 have hy : w2.heap[w1.heap.size]? = some (.cells #[.string ⟨#[115]⟩, .int .i64 1, .int .i64 0] 23 (0, 0)) := by rw [hw2]; exact heap_new _ _
 clear hw2
 obtain ⟨BY, hBY⟩ := nXe (w1.heap.size)
 rw [← hBY] at hy ⊢
 have gY : w0.heap.size ≤ BY := by omega
 clear hBY
 have Hyn := lh hy
 clear hy
 have HE2 := lh ((hb.block _ lE1).trans HE1.out)
 have lE2 := lt_row HE2.out
 have HBL2 := tbB HBL1 hb
 have z2 := HBL2.out.size
 clear hb z1 lE1
 have HY2 := lh Hyn.out
 have lY2 := lt_row HY2.out
 clear Hyn
 have eY : BY < w2.heap.size := lY2
 have eE : BE < w2.heap.size := lE2
 refine (Make_s w2 (HK.out.below HBL2.out)).mono ?_
 rintro e w3 ⟨R, v, rfl, hR, hb⟩
 have hRg := hR.ge
 have hRl := lt_row hR.row
 have HR3 := lh hR
 clear hR
 have HE3 := lh ((hb.block _ lE2).trans HE2.out)
 have lE3 := lt_row HE3.out
 have HY3 := lh ((hb.block _ lY2).trans HY2.out)
 have lY3 := lt_row HY3.out
 have HBL3 := tbB HBL2 hb
 have z3 := HBL3.out.size
 clear hb z2 lE2 lY2
 go_wp2_with (first | (refine wpList_load_row rfl _ _ rfl BE rfl _ E0 (0, 0) _ HE3.out Tryz.underlying27 rfl HE0S.out ?_) | fail)
 refine (W1.out w3 (HK.out.below HBL3.out) (HV.out.below HBL3.out)).mono ?_
 rintro e w4 ⟨rfl, hb⟩
 have HE4 := lh ((hb.block _ lE3).trans HE3.out)
 have lE4 := lt_row HE4.out
 have HY4 := lh ((hb.block _ lY3).trans HY3.out)
 have lY4 := lt_row HY4.out
 have HR4 := lh (ring_below HR3.out hb)
 have HBL4 := tbB HBL3 hb
 have z4 := HBL4.out.size
 clear hb z3 lE3 lY3
 go_wp2_with (first | (refine wpList_store_rowA rfl _ _ _ rfl w4.heap.size H0 rfl rfl _ _ (heap_new _ _) HH0S.out (by rw [← HH0N.out]; rfl) HH0O.out ?_) | fail)
 intro u1 hu1
 have hb : Below w4.heap.size w4 u1 := by rw [hu1.out]; exact below_row bAx (Nat.le_refl _) _
 have hy : u1.heap[w4.heap.size]? = some (.cells H0 47 (0, 0)) := by rw [hu1.out]; exact setRow_at (heap_new _ _)
 clear hu1
 obtain ⟨w5, hww⟩ : ∃ w', w' = u1 := ⟨_, rfl⟩
 rw [← hww] at hb hy ⊢
 clear hww
 obtain ⟨BH, hBH⟩ := nXe (w4.heap.size)
 rw [← hBH] at hy ⊢
 have gH : w0.heap.size ≤ BH := by omega
 have hRH : R < BH := by have := lt_row HR4.out.row; omega
 clear hBH
 have Hyn := lh hy
 clear hy
 have HE5 := lh ((hb.block _ lE4).trans HE4.out)
 have lE5 := lt_row HE5.out
 have HY5 := lh ((hb.block _ lY4).trans HY4.out)
 have lY5 := lt_row HY5.out
 have HR5 := lh (ring_below HR4.out hb)
 have HBL5 := tbB HBL4 hb
 have z5 := HBL5.out.size
 clear hb z4 lE4 lY4
 have HH5 := lh Hyn.out
 have lH5 := lt_row HH5.out
 clear Hyn
 go_wp2_with (first | (refine wpList_load_row rfl _ _ rfl BE rfl _ E0 (0, 0) _ HE5.out Tryz.underlying27 rfl HE0S.out ?_) | fail)
 refine (W2.out w5 (HK.out.below HBL5.out) (HV.out.below HBL5.out)).mono ?_
 rintro e w6 ⟨rfl, hb⟩
 have HE6 := lh ((hb.block _ lE5).trans HE5.out)
 have lE6 := lt_row HE6.out
 have HY6 := lh ((hb.block _ lY5).trans HY5.out)
 have lY6 := lt_row HY6.out
 have HH6 := lh ((hb.block _ lH5).trans HH5.out)
 have lH6 := lt_row HH6.out
 have HR6 := lh (ring_below HR5.out hb)
 have HBL6 := tbB HBL5 hb
 have z6 := HBL6.out.size
 clear hb z5 lE5 lY5 lH5
 go_wp2_with (first | (refine wpList_store_rowA rfl _ _ _ rfl w6.heap.size SR rfl rfl _ _ (heap_new _ _) HSRS.out (by rw [← HSRN.out]; rfl) HSRO.out ?_) | fail)
 intro u1 hu1
 have hb : Below w6.heap.size w6 u1 := by rw [hu1.out]; exact below_row bAx (Nat.le_refl _) _
 have hy : u1.heap[w6.heap.size]? = some (.cells SR 25 (0, 0)) := by rw [hu1.out]; exact setRow_at (heap_new _ _)
 clear hu1
 obtain ⟨w7, hww⟩ : ∃ w', w' = u1 := ⟨_, rfl⟩
 rw [← hww] at hb hy ⊢
 clear hww
 obtain ⟨BS, hBS⟩ := nXe (w6.heap.size)
 rw [← hBS] at hy ⊢
 have gS : w0.heap.size ≤ BS := by omega
 have hRS : R < BS := by have := lt_row HR6.out.row; omega
 clear hBS
 have Hyn := lh hy
 clear hy
 have HE7 := lh ((hb.block _ lE6).trans HE6.out)
 have lE7 := lt_row HE7.out
 have HY7 := lh ((hb.block _ lY6).trans HY6.out)
 have lY7 := lt_row HY7.out
 have HH7 := lh ((hb.block _ lH6).trans HH6.out)
 have lH7 := lt_row HH7.out
 have HR7 := lh (ring_below HR6.out hb)
 have HBL7 := tbB HBL6 hb
 have z7 := HBL7.out.size
 clear hb z6 lE6 lY6 lH6
 have HS7 := lh Hyn.out
 have lS7 := lt_row HS7.out
 clear Hyn
 go_wp2_with (first | (refine wpList_load_row rfl _ _ rfl BH rfl _ H0 (0, 0) _ HH7.out Tryz.underlying47 rfl HH0S.out ?_) | fail)
 refine (W3.out w2 w7 R v HR7.out (HK.out.below HBL7.out) (HV.out.below HBL7.out)).mono ?_
 rintro e w8 ⟨rfl, hRn, hE⟩
 have lE_ := lE7
 have lY_ := lY7
 have HE8 := lh (hE.blockOf HE7.out (fun h => by omega))
 have lE8 := lt_row HE8.out
 have HY8 := lh (hE.blockOf HY7.out (fun h => by omega))
 have lY8 := lt_row HY8.out
 have HH8 := lh (hE.blockOf HH7.out (fun h => by omega))
 have lH8 := lt_row HH8.out
 have HS8 := lh (hE.blockOf HS7.out (fun h => by omega))
 have lS8 := lt_row HS8.out
 have HBL8 := lh (Bl.ext HBL7.out hE (fun k h1 h => by omega))
 have z8 := HBL8.out.size
 clear hE z7 lE7 lY7 lH7 lS7
 have HR8 := lh hRn
 clear hRn
 go_wp2_with (first | (refine wpList_store_rowA rfl _ _ _ rfl w8.heap.size HF rfl rfl _ _ (heap_new _ _) HHFS.out (by rw [← HHFN.out]; rfl) HHFO.out ?_) | fail)
 intro u1 hu1
 have hb : Below w8.heap.size w8 u1 := by rw [hu1.out]; exact below_row bAx (Nat.le_refl _) _
 have hy : u1.heap[w8.heap.size]? = some (.cells HF 47 (0, 0)) := by rw [hu1.out]; exact setRow_at (heap_new _ _)
 clear hu1
 obtain ⟨w9, hww⟩ : ∃ w', w' = u1 := ⟨_, rfl⟩
 rw [← hww] at hb hy ⊢
 clear hww
 obtain ⟨BF, hBF⟩ := nXe (w8.heap.size)
 rw [← hBF] at hy ⊢
 have gF : w0.heap.size ≤ BF := by omega
 have hEF : BE < BF := by have := lE8; omega
 have hRF : R < BF := by have := lt_row HR8.out.row; omega
 have hHF' : BH < BF := by have := lH8; omega
 have hSF' : BS < BF := by have := lS8; omega
 clear hBF
 have Hyn := lh hy
 clear hy
 have HE9 := lh ((hb.block _ lE8).trans HE8.out)
 have lE9 := lt_row HE9.out
 have HY9 := lh ((hb.block _ lY8).trans HY8.out)
 have lY9 := lt_row HY9.out
 have HH9 := lh ((hb.block _ lH8).trans HH8.out)
 have lH9 := lt_row HH9.out
 have HS9 := lh ((hb.block _ lS8).trans HS8.out)
 have lS9 := lt_row HS9.out
 have HR9 := lh (ring_below HR8.out hb)
 have HBL9 := tbB HBL8 hb
 have z9 := HBL9.out.size
 clear hb z8 lE8 lY8 lH8 lS8
 have HF9 := lh Hyn.out
 have lF9 := lt_row HF9.out
 clear Hyn
 go_wp2_with fail
 refine (W4.out w2 w9 R 1 v HR9.out).mono ?_
 rintro e w10 ⟨rfl, hb⟩
 have HE10 := lh ((hb.block _ lE9).trans HE9.out)
 have lE10 := lt_row HE10.out
 have HY10 := lh ((hb.block _ lY9).trans HY9.out)
 have lY10 := lt_row HY10.out
 have HH10 := lh ((hb.block _ lH9).trans HH9.out)
 have lH10 := lt_row HH10.out
 have HS10 := lh ((hb.block _ lS9).trans HS9.out)
 have lS10 := lt_row HS10.out
 have HF10 := lh ((hb.block _ lF9).trans HF9.out)
 have lF10 := lt_row HF10.out
 have HR10 := lh (ring_below HR9.out hb)
 have HBL10 := tbB HBL9 hb
 have z10 := HBL10.out.size
 clear hb z9 lE9 lY9 lH9 lS9 lF9
 go_wp2_with (first | (refine EntQ.wpList_buildC rfl 66 _ rfl GA (by first | exact HGAb.out | (go_simp; exact HGAb.out)) ?_) | (refine wpList_load_row rfl _ _ rfl BF rfl _ HF (0, 0) _ (heap_at HF10.out _) Tryz.underlying47 rfl HHFS.out ?_) | fail)
 rw [EntQ.fold_any #[.int .i64 0, .int .i64 0, .int .i64 0, .int .i64 0, .int .u8 0, .int .u8 0, .int .u8 0, .int .u8 0, .int .u8 0, .int .u8 0, .int .u8 0, .int .u8 0, .int .u8 0, .int .u8 0, .int .u8 0, .int .u8 0, .int .u8 0, .int .u8 0, .int .u8 0, .int .u8 0, .int .u8 0, .int .u8 0, .int .u8 0, .int .u8 0, .int .u8 0, .int .u8 0, .int .u8 0, .int .u8 0, .int .u8 0, .int .u8 0, .int .u8 0, .int .u8 0, .int .u8 0, .int .u8 0, .int .u8 0, .int .u8 0] GA 36 rfl HGAn.out]
 obtain ⟨w11, hww⟩ : ∃ w', w' = w10.alloc (.cells GA 66) := ⟨_, rfl⟩
 rw [← hww]
 have hb : Below w10.heap.size w10 w11 := by rw [hww]; exact bAx
 have hy : w11.heap[w10.heap.size]? = some (.cells GA 66 (0, 0)) := by rw [hww]; exact heap_new _ _
 clear hww
 obtain ⟨BB, hBB⟩ := nXe (w10.heap.size)
 rw [← hBB] at hy ⊢
 have hFB : BF < BB := by have := lF10; omega
 clear hBB
 have Hyn := lh hy
 clear hy
 have HE11 := lh ((hb.block _ lE10).trans HE10.out)
 have lE11 := lt_row HE11.out
 have HY11 := lh ((hb.block _ lY10).trans HY10.out)
 have lY11 := lt_row HY11.out
 have HH11 := lh ((hb.block _ lH10).trans HH10.out)
 have lH11 := lt_row HH11.out
 have HS11 := lh ((hb.block _ lS10).trans HS10.out)
 have lS11 := lt_row HS11.out
 have HF11 := lh ((hb.block _ lF10).trans HF10.out)
 have lF11 := lt_row HF11.out
 have HBL11 := tbB HBL10 hb
 have z11 := HBL11.out.size
 clear hb z10 lE10 lY10 lH10 lS10 lF10
 have HB11 := lh Hyn.out
 have lB11 := lt_row HB11.out
 clear Hyn
 refine (W5.out w11 (HV.out.below HBL11.out)).mono ?_
 rintro e w12 ⟨rfl, hb⟩
 have HE12 := lh ((hb.block _ lE11).trans HE11.out)
 have lE12 := lt_row HE12.out
 have HY12 := lh ((hb.block _ lY11).trans HY11.out)
 have lY12 := lt_row HY12.out
 have HH12 := lh ((hb.block _ lH11).trans HH11.out)
 have lH12 := lt_row HH12.out
 have HS12 := lh ((hb.block _ lS11).trans HS11.out)
 have lS12 := lt_row HS12.out
 have HF12 := lh ((hb.block _ lF11).trans HF11.out)
 have lF12 := lt_row HF12.out
 have HB12 := lh ((hb.block _ lB11).trans HB11.out)
 have lB12 := lt_row HB12.out
 have HBL12 := tbB HBL11 hb
 have z12 := HBL12.out.size
 clear hb z11 lE11 lY11 lH11 lS11 lF11 lB11
 go_wp2_with fail
 refine (W6.out w12 (HV.out.below HBL12.out)).mono ?_
 rintro e w13 ⟨rfl, hb⟩
 have HE13 := lh ((hb.block _ lE12).trans HE12.out)
 have lE13 := lt_row HE13.out
 have HY13 := lh ((hb.block _ lY12).trans HY12.out)
 have lY13 := lt_row HY13.out
 have HH13 := lh ((hb.block _ lH12).trans HH12.out)
 have lH13 := lt_row HH13.out
 have HS13 := lh ((hb.block _ lS12).trans HS12.out)
 have lS13 := lt_row HS13.out
 have HF13 := lh ((hb.block _ lF12).trans HF12.out)
 have lF13 := lt_row HF13.out
 have HB13 := lh ((hb.block _ lB12).trans HB12.out)
 have lB13 := lt_row HB13.out
 have HBL13 := tbB HBL12 hb
 have z13 := HBL13.out.size
 clear hb z12 lE12 lY12 lH12 lS12 lF12 lB12
 go_wp2_with (first | (refine wpList_store_rowA rfl _ _ _ rfl w13.heap.size HF rfl rfl _ _ (heap_new _ _) HHFS.out (by rw [← HHFN.out]; rfl) HHFO.out ?_) | fail)
 intro u1 hu1
 have hb : Below w13.heap.size w13 u1 := by rw [hu1.out]; exact below_row bAx (Nat.le_refl _) _
 have hy : u1.heap[w13.heap.size]? = some (.cells HF 47 (0, 0)) := by rw [hu1.out]; exact setRow_at (heap_new _ _)
 clear hu1
 obtain ⟨w14, hww⟩ : ∃ w', w' = u1 := ⟨_, rfl⟩
 rw [← hww] at hb hy ⊢
 clear hww
 obtain ⟨BG, hBG⟩ := nXe (w13.heap.size)
 rw [← hBG] at hy ⊢
 have gG : w0.heap.size ≤ BG := by omega
 have hFG : BF < BG := by have := lF13; omega
 clear hBG
 have Hyn := lh hy
 clear hy
 have HE14 := lh ((hb.block _ lE13).trans HE13.out)
 have lE14 := lt_row HE14.out
 have HY14 := lh ((hb.block _ lY13).trans HY13.out)
 have lY14 := lt_row HY14.out
 have HH14 := lh ((hb.block _ lH13).trans HH13.out)
 have lH14 := lt_row HH14.out
 have HS14 := lh ((hb.block _ lS13).trans HS13.out)
 have lS14 := lt_row HS14.out
 have HF14 := lh ((hb.block _ lF13).trans HF13.out)
 have lF14 := lt_row HF14.out
 have HB14 := lh ((hb.block _ lB13).trans HB13.out)
 have lB14 := lt_row HB14.out
 have HBL14 := tbB HBL13 hb
 have z14 := HBL14.out.size
 clear hb z13 lE13 lY13 lH13 lS13 lF13 lB13
 have HG14 := lh Hyn.out
 have lG14 := lt_row HG14.out
 clear Hyn
 go_wp2_with fail
 refine (W7.out w14 (HV.out.below HBL14.out)).mono ?_
 rintro e w15 ⟨rfl, hb⟩
 have HE15 := lh ((hb.block _ lE14).trans HE14.out)
 have lE15 := lt_row HE15.out
 have HY15 := lh ((hb.block _ lY14).trans HY14.out)
 have lY15 := lt_row HY15.out
 have HH15 := lh ((hb.block _ lH14).trans HH14.out)
 have lH15 := lt_row HH15.out
 have HS15 := lh ((hb.block _ lS14).trans HS14.out)
 have lS15 := lt_row HS15.out
 have HF15 := lh ((hb.block _ lF14).trans HF14.out)
 have lF15 := lt_row HF15.out
 have HB15 := lh ((hb.block _ lB14).trans HB14.out)
 have lB15 := lt_row HB15.out
 have HG15 := lh ((hb.block _ lG14).trans HG14.out)
 have lG15 := lt_row HG15.out
 have HBL15 := tbB HBL14 hb
 have z15 := HBL15.out.size
 clear hb z14 lE14 lY14 lH14 lS14 lF14 lB14 lG14
 go_wp2_with (first | (refine wpList_store_rowA rfl _ _ _ rfl w15.heap.size HZ rfl rfl _ _ (heap_new _ _) HHZS.out (by rw [← HHZN.out]; rfl) HHZO.out ?_) | fail)
 intro u1 hu1
 have hb : Below w15.heap.size w15 u1 := by rw [hu1.out]; exact below_row bAx (Nat.le_refl _) _
 have hy : u1.heap[w15.heap.size]? = some (.cells HZ 47 (0, 0)) := by rw [hu1.out]; exact setRow_at (heap_new _ _)
 clear hu1
 obtain ⟨w16, hww⟩ : ∃ w', w' = u1 := ⟨_, rfl⟩
 rw [← hww] at hb hy ⊢
 clear hww
 obtain ⟨BQ, hBQ⟩ := nXe (w15.heap.size)
 rw [← hBQ] at hy ⊢
 have gQ : w0.heap.size ≤ BQ := by omega
 clear hBQ
 have Hyn := lh hy
 clear hy
 have HE16 := lh ((hb.block _ lE15).trans HE15.out)
 have lE16 := lt_row HE16.out
 have HY16 := lh ((hb.block _ lY15).trans HY15.out)
 have lY16 := lt_row HY16.out
 have HH16 := lh ((hb.block _ lH15).trans HH15.out)
 have lH16 := lt_row HH16.out
 have HS16 := lh ((hb.block _ lS15).trans HS15.out)
 have lS16 := lt_row HS16.out
 have HF16 := lh ((hb.block _ lF15).trans HF15.out)
 have lF16 := lt_row HF16.out
 have HB16 := lh ((hb.block _ lB15).trans HB15.out)
 have lB16 := lt_row HB16.out
 have HG16 := lh ((hb.block _ lG15).trans HG15.out)
 have lG16 := lt_row HG16.out
 have HBL16 := tbB HBL15 hb
 have z16 := HBL16.out.size
 clear hb z15 lE15 lY15 lH15 lS15 lF15 lB15 lG15
 have HQ16 := lh Hyn.out
 have lQ16 := lt_row HQ16.out
 clear Hyn
 go_wp2_with (first | (refine wpList_load_row rfl _ _ rfl BF rfl _ HF (0, 0) _ HF16.out Tryz.underlying47 rfl HHFS.out ?_) | fail)
 refine (W8.out w16 _ (HK.out.below HBL16.out) (HV.out.below HBL16.out) (by rw [← HGAc'.out]; exact EntQ.sl_one HB16.out HGAn.out)).mono ?_
 rintro e w17 ⟨rfl, hb⟩
 have HE17 := lh ((hb.block _ lE16).trans HE16.out)
 have lE17 := lt_row HE17.out
 have HY17 := lh ((hb.block _ lY16).trans HY16.out)
 have lY17 := lt_row HY17.out
 have HH17 := lh ((hb.block _ lH16).trans HH16.out)
 have lH17 := lt_row HH17.out
 have HS17 := lh ((hb.block _ lS16).trans HS16.out)
 have lS17 := lt_row HS17.out
 have HF17 := lh ((hb.block _ lF16).trans HF16.out)
 have lF17 := lt_row HF17.out
 have HB17 := lh ((hb.block _ lB16).trans HB16.out)
 have lB17 := lt_row HB17.out
 have HG17 := lh ((hb.block _ lG16).trans HG16.out)
 have lG17 := lt_row HG17.out
 have HQ17 := lh ((hb.block _ lQ16).trans HQ16.out)
 have lQ17 := lt_row HQ17.out
 have HBL17 := tbB HBL16 hb
 have z17 := HBL17.out.size
 clear hb z16 lE16 lY16 lH16 lS16 lF16 lB16 lG16 lQ16
 have hne1 : ¬ BG = BF := by omega
 have hne2 : ¬ BF = BG := by omega
 obtain ⟨cy, fy⟩ := row_facts HF17.out
 have kF1 := (cy 1).trans Hc1.out
 have fF1 := fy 1
 obtain ⟨cx, fx⟩ := row_facts HG17.out
 have kG2 := (cx 2).trans Hc2.out
 clear cy fy cx fx
 have hXF := lh (show (w17.setCell ⟨BF, 1, none⟩ (.int .i64 2)).heap[BF]? = some (.cells H2 47 (0, 0)) by rw [← Hset.out]; exact heap_setCell_same HF17.out _)
 have hXG0 := show (w17.setCell ⟨BF, 1, none⟩ (.int .i64 2)).heap[BG]? = some (.cells HF 47 (0, 0)) by rw [heap_setCell_far _ (by omega)]; exact HG17.out
 have hXG := lh (show ∀ (j : Nat) (u : Value), SR.toList[j]? = some u → (w17.setCell ⟨BF, 1, none⟩ (.int .i64 2)).cell? ⟨BG, 3 + j, none⟩ = some u by intro j u hu; rw [cell_row hXG0]; exact Hcs.out j u hu)
 clear hXG0
 have hXH := lh (show (w17.setCell ⟨BF, 1, none⟩ (.int .i64 2)).heap[BH]? = some (.cells H0 47 (0, 0)) by rw [heap_setCell_far _ (by omega)]; exact HH17.out)
 have hXS := lh (show (w17.setCell ⟨BF, 1, none⟩ (.int .i64 2)).heap[BS]? = some (.cells SR 25 (0, 0)) by rw [heap_setCell_far _ (by omega)]; exact HS17.out)
 have hXB := lh (show (w17.setCell ⟨BF, 1, none⟩ (.int .i64 2)).heap[BB]? = some (.cells GA 66 (0, 0)) by rw [heap_setCell_far _ (by omega)]; exact HB17.out)
 have hXW := lh (show Below w0.heap.size w0 (w17.setCell ⟨BF, 1, none⟩ (.int .i64 2)) from HBL17.out.setCell (p := ⟨BF, 1, none⟩) (by show w0.heap.size ≤ BF; omega) _)
 have hq := Hq.out
 have hqs := Hqs.out
 have hGE := HGE.out
 have hGH := HGH.out
 go_wp2_with (first | (refine WireT.wpList_load_rowG (by first | rfl | kernel_rfl) _ _ rfl BH rfl _ H0 (0, 0) _ hXH.out Tryz.underlying47 rfl HH0S.out ?_) | (refine WireT.wpList_load_rowG (by first | rfl | kernel_rfl) _ _ rfl BS rfl _ SR (0, 0) _ hXS.out Tryz.underlying25 rfl HSRS.out ?_) | (refine wpList_buildG (by first | rfl | kernel_rfl) 47 _ rfl H0 (by first | exact Hbs.out | (go_simp; exact Hbs.out)) ?_) | (refine wpList_load_rowOG (by first | rfl | kernel_rfl) _ _ rfl BG 3 rfl SR hXG.out Tryz.underlying25 rfl HSRS.out ?_) | (refine WireT.wpList_load_rowG (by first | rfl | kernel_rfl) _ _ rfl BF rfl _ H2 (0, 0) _ hXF.out Tryz.underlying47 rfl HH2S.out ?_) | fail)
 refine (W9.out _ _ (HK.out.below hXW.out) (HV.out.below hXW.out) (by rw [← HGAc'.out]; exact EntQ.sl_one hXB.out HGAn.out)).mono ?_
 rintro e wa ⟨rfl, hb⟩
 have hYW := tbB hXW hb
 clear hb
 go_wp2_with fail
 rw [HHZL.out]
 refine (WA.out _ (HV.out.below hYW.out)).mono ?_
 rintro e wc ⟨rfl, hb⟩
 have hUW := tbB hYW hb
 clear hb
 go_wp2
 go_ret
 exact ⟨rfl, hUW.out⟩
end Go.Proofs.YtkcikadgnnjjjaaGreatDoor.HdQ
