/-
  WHAT IS PROVED: contracts of functions, and plain laws. Condition: what each theorem names.
-/
import Derived.Test.YtadofbbpfgmclaaGreatDoorS0
import Derived.Test.YtadofbbpfgmclaaGreatDoorZTBH18
set_option linter.unusedVariables false
set_option linter.unusedSimpArgs false
set_option maxRecDepth 100000
set_option maxHeartbeats 4000000
namespace Go.Proofs.YtadofbbpfgmclaaGreatDoor.PfQ
open Go.Proofs.Tryz hiding parts
open Go Go.RowKit Go.Shelf OctetS IdentS EntS OctG IdentP EntP EventC ShaA Steps KeyA KeyS KeyI KeyK TreeA EntK BookA PfK PfL WireT KeyG
open EntL (Make_s rB nB root_A rootL byV_bN gr)
open EntQ (FP)
attribute [-go_sem] run_equalIn_agg
theorem HdQ_buildG {P : Program} {ops : Array Oper} {rest : List Oper} {o : Oper} {a : Act} {w : World} {Q : Exit → Act → World → Prop} (hw : Region.wanted o (yielded ops a.tmps) = true) (t : TypeId) (parts : Array (Nat × Operand)) (ho : o.op = .build t parts) (cells : Array Value)
 (hb : P.built t (parts.map fun (i, x) => (i, a.eval x)).toList = some cells) (h : wpList P ops Q rest (a.put o.dst (.agg cells)) w) : wpList P ops Q (o :: rest) a w := by
 unfold wpList
 rw [if_pos hw]
 exact .inl (wp_build t parts ho (by rw [hb]; rfl) (by rw [hb]; exact h))
theorem eqPf (n1 n2 : Int) (a1 x1 b1 y1 a2 x2 b2 y2 : ByteArray) (w : World) : (Op.equalIn 10000 24 (.agg (pfA n1 a1 x1 b1 y1)) (.agg (pfA n2 a2 x2 b2 y2))).run Tryz.prog w =
 .ok (n1 == n2 && (a1.toList == a2.toList && (x1.toList == x2.toList && (b1.toList == b2.toList && y1.toList == y2.toList)))) w := by
 have u3 : Tryz.prog.underlying 3 = some (.int .i64) := by kernel_rfl
 have u9 : Tryz.prog.underlying 9 = some .string := by kernel_rfl
 have hS : Tryz.prog.underlying 24 = some (.struct (Tryz.prog.fieldsOf 24)) := by kernel_rfl
 have hF : (Tryz.prog.fieldsOf 24).toList = [⟨"Server", 3, 0, false, "", "", 0⟩, ⟨"A", 9, 1, false, "", "", 8⟩, ⟨"SigA", 9, 2, false, "", "", 24⟩, ⟨"B", 9, 3, false, "", "", 40⟩, ⟨"SigB", 9, 4, false, "", "", 56⟩] := by kernel_rfl
 have hp : Tryz.prog.stoodInHeld 24 = false := by kernel_rfl
 unfold pfA
 rw [show (10000 : Nat) = 9999 + 1 from rfl, run_equalIn_agg w 9999 24 _ _ hS hp, hF]
 go_simp
 cases h1 : n1 == n2 <;> cases h2 : a1.toList == a2.toList <;> cases h3 : x1.toList == x2.toList <;> cases h4 : b1.toList == b2.toList <;> cases h5 : y1.toList == y2.toList <;> simp_all
theorem guardPf : Go.Program.eqGuardType Tryz.prog Tryz.prog.depth 24 = false := by kernel_rfl
theorem pf_self (n : Int) (a x b y : ByteArray) (w : World) : (Op.equalIn 10000 24 (.agg (pfA n a x b y)) (.agg (pfA n a x b y))).run Tryz.prog w = .ok true w := by
 rw [eqPf]
 simp
theorem Ej (w : World) (hv : Ag w) (hk : Al w) : Calls Tryz.prog 6 #[] w (RB (.bool true) w) := by
 obtain ⟨E0, hE0⟩ := nXe (eA nB)
 have hE0n : E0.size = 37 := by rw [hE0]; exact (eP nB).size
 have HE0S : Hid ((Tryz.prog.info? 51).map (·.size) = some E0.size) := lh (by rw [hE0n]; kernel_rfl)
 have HE0N : Hid (37 = E0.size) := lh hE0n.symm
 have HE0O : Hid (E0.all (·.oneCell') = true) := lh (by rw [hE0]; exact WireT.BM _ _ _ _ _ _)
 obtain ⟨EF, hEF⟩ := nXe (eA geB)
 have hEFn : EF.size = 37 := by rw [hEF]; exact (eP geB).size
 have HEFS : Hid ((Tryz.prog.info? 51).map (·.size) = some EF.size) := lh (by rw [hEFn]; kernel_rfl)
 have HEFN : Hid (37 = EF.size) := lh hEFn.symm
 have HEFO : Hid (EF.all (·.oneCell') = true) := lh (by rw [hEF]; exact WireT.BM _ _ _ _ _ _)
 obtain ⟨H0, hH0⟩ := nXe (hA nB)
 have hH0n : H0.size = 36 := by rw [hH0]; exact (hP nB).size
 have HH0S : Hid ((Tryz.prog.info? 29).map (·.size) = some H0.size) := lh (by rw [hH0n]; kernel_rfl)
 have HH0N : Hid (36 = H0.size) := lh hH0n.symm
 have HH0O : Hid (H0.all (·.oneCell') = true) := lh (by rw [hH0]; exact BI _ _ _ _ _)
 obtain ⟨HF, hHF⟩ := nXe (hA ghB)
 have hHFn : HF.size = 36 := by rw [hHF]; exact (hP ghB).size
 have HHFS : Hid ((Tryz.prog.info? 29).map (·.size) = some HF.size) := lh (by rw [hHFn]; kernel_rfl)
 have HHFN : Hid (36 = HF.size) := lh hHFn.symm
 have HHFO : Hid (HF.all (·.oneCell') = true) := lh (by rw [hHF]; exact BI _ _ _ _ _)
 obtain ⟨HZ, hHZ⟩ := nXe (hdZ)
 have hHZn : HZ.size = 36 := by rw [hHZ]; exact (by rfl)
 have HHZS : Hid ((Tryz.prog.info? 29).map (·.size) = some HZ.size) := lh (by rw [hHZn]; kernel_rfl)
 have HHZN : Hid (36 = HZ.size) := lh hHZn.symm
 have HHZO : Hid (HZ.all (·.oneCell') = true) := lh (by rw [hHZ]; exact BI _ _ _ _ _)
 obtain ⟨P, hP⟩ := nXe (pfA 2 teB geB thB ghB)
 have hPn : P.size = 5 := by rw [hP]; exact (by rfl)
 have HPS : Hid ((Tryz.prog.info? 24).map (·.size) = some P.size) := lh (by rw [hPn]; kernel_rfl)
 have HPN : Hid (5 = P.size) := lh hPn.symm
 have HPO : Hid (P.all (·.oneCell') = true) := lh (by rw [hP]; exact by simp [pfA, pfZ, Value.oneCell'])
 obtain ⟨P1, hP1r⟩ := nXe (pfA 1 teB geB thB ghB)
 have hP1n : P1.size = 5 := by rw [hP1r]; exact (by rfl)
 have HP1S : Hid ((Tryz.prog.info? 24).map (·.size) = some P1.size) := lh (by rw [hP1n]; kernel_rfl)
 have HP1N : Hid (5 = P1.size) := lh hP1n.symm
 have HP1O : Hid (P1.all (·.oneCell') = true) := lh (by rw [hP1r]; exact by simp [pfA, pfZ, Value.oneCell'])
 obtain ⟨PS, hPS⟩ := nXe (pfA 2 teB geB teB geB)
 have hPSn : PS.size = 5 := by rw [hPS]; exact (by rfl)
 have HPSS : Hid ((Tryz.prog.info? 24).map (·.size) = some PS.size) := lh (by rw [hPSn]; kernel_rfl)
 have HPSN : Hid (5 = PS.size) := lh hPSn.symm
 have HPSO : Hid (PS.all (·.oneCell') = true) := lh (by rw [hPS]; exact by simp [pfA, pfZ, Value.oneCell'])
 obtain ⟨PZ, hPZ⟩ := nXe (pfZ)
 have hPZn : PZ.size = 5 := by rw [hPZ]; exact (by rfl)
 have HPZS : Hid ((Tryz.prog.info? 24).map (·.size) = some PZ.size) := lh (by rw [hPZn]; kernel_rfl)
 have HPZN : Hid (5 = PZ.size) := lh hPZn.symm
 have HPZO : Hid (PZ.all (·.oneCell') = true) := lh (by rw [hPZ]; exact by simp [pfA, pfZ, Value.oneCell'])
 obtain ⟨C, hC⟩ := nXe ((D5 [115] 1).A)
 have hCn : C.size = 32 := by rw [hC]; exact H32.size _
 have HCS : Hid ((Tryz.prog.info? 27).map (·.size) = some C.size) := lh (by rw [hCn]; kernel_rfl)
 have HCN : Hid (32 = C.size) := lh hCn.symm
 have HCO : Hid (C.all (·.oneCell') = true) := lh (by rw [hC]; exact H32.one _)
 have hCL : C = rootL := by rw [hC]; exact root_A
 have hrB : rB = ⟨#[33, 104, 97, 108, 108, 58, 48]⟩ := by kernel_rfl
 have hKb : Tryz.prog.built 40 [(0, .string ⟨#[115]⟩), (1, .int .i64 1)] = some #[.string ⟨#[115]⟩, .int .i64 1, .int .i64 0] := by kernel_rfl
 have hEb : Tryz.prog.built 51 [(0, .string ⟨#[33, 104, 97, 108, 108, 58, 48]⟩), (2, .int .i64 5), (4, .string ⟨#[120]⟩)] = some E0 := by rw [hE0]; kernel_rfl
 have hHb : Tryz.prog.built 29 [(0, .string ⟨#[33, 104, 97, 108, 108, 58, 48]⟩), (2, .int .i64 5)] = some H0 := by rw [hH0]; kernel_rfl
 have hZb : Tryz.prog.built 24 [] = some PZ := by rw [hPZ]; kernel_rfl
 obtain ⟨tt, htt⟩ := nXe (teB)
 obtain ⟨gg, hgg⟩ := nXe (geB)
 obtain ⟨uu, huu⟩ := nXe (thB)
 obtain ⟨vv, hvv⟩ := nXe (ghB)
 obtain ⟨bb, hbb⟩ := nXe (uB)
 have hPb : Tryz.prog.built 24 [(0, .int .i64 2), (1, .string tt), (2, .string gg), (3, .string uu), (4, .string vv)] = some P := by rw [hP, ← htt, ← hgg, ← huu, ← hvv]; kernel_rfl
 have hE36 : EF[36]? = some (.string gg) := by rw [hEF, hgg]; exact (eP geB).c36
 have hH35 : HF[35]? = some (.string vv) := by rw [hHF, hvv]; exact (PfL.hP ghB).c35
 have hH2 : H0[2]? = some (.int .i64 5) := by rw [hH0]; exact (PfL.hP nB).c2
 have hP1 : P[1]? = some (.string tt) := by rw [hP, htt]; rfl
 have hP2 : P[2]? = some (.string gg) := by rw [hP, hgg]; rfl
 have hP3 : P[3]? = some (.string uu) := by rw [hP, huu]; rfl
 have hP4 : P[4]? = some (.string vv) := by rw [hP, hvv]; rfl
 have hP0 : P[0]? = some (.int .i64 2) := by rw [hP]; rfl
 have hs1 : P.setIfInBounds 0 (.int .i64 1) = P1 := by rw [hP, hP1r]; rfl
 have hs2 : (P.setIfInBounds 3 (.string tt)).setIfInBounds 4 (.string gg) = PS := by rw [hP, hPS, htt, hgg]; rfl
 have hq : ∀ w, (Op.equalIn 10000 24 (.agg P) (.agg P)).run Tryz.prog w = .ok true w := by rw [hP]; exact fun w => pf_self _ _ _ _ _ w
 have hGE := guardPf
 have V1 := Sign_e
 have V2 := Sign_h
 have V3 := Text_e
 have V4 := HdL.Ring_Root
 have V5 := Text_h
 have V6 := Says_h
 have V7 := Says_x
 have V8 := Bytes_p
 have V9 := Parse_u
 have VA := fun w v => Check_n w v 2 0 check_yes
 have VB := fun w v => Check_n w v 1 3 check_one
 have VC := Check_s
 have VD := Check_z
 rw [← hE0, ← hEF] at V1
 rw [← hH0, ← hHF] at V2
 rw [← hEF, ← htt] at V3
 rw [← hC] at V4
 rw [← hHF, ← huu] at V5
 rw [← huu, ← hH0] at V6
 rw [← hHZ] at V7
 rw [← hP, ← hbb] at V8
 rw [← hbb, ← hP] at V9
 rw [← hP] at VA
 rw [← hP1r] at VB
 rw [← hPS] at VC
 rw [← hPZ] at VD
 obtain ⟨GA, hGA⟩ := nXe (gr.A)
 have hGAn : GA.size = 36 := by rw [hGA]; unfold Gr'.A; rw [List.size_toArray, grF.len]
 have hGAc : GA.toList = gr.cs := by rw [hGA]; rfl
 have hGAb : Tryz.prog.built 47 [(0, .int .i64 2), (2, .int .i64 9), (3, .int .i64 1), (4, .agg C)] = some GA := by rw [hCL, hGA]; unfold Gr'.A Gr'.cs gr; rw [rootK_l, byV_bN, KeyN.root_s]; kernel_rfl
 obtain ⟨W1, W2, W3, W4, W5, W6, W7, W8, W9⟩ := l9h V1 V2 V3 V4 V5 V6 V7 V8 V9
 obtain ⟨WA, WB, WC, WD, HhKb', HhEb', HhHb', HhZb', HhPb'⟩ := l9h VA VB VC VD hKb hEb hHb hZb hPb
 obtain ⟨HhE36', HhH35', HhH2', HhP1', HhP2', HhP3', HhP4', HhP0', Hhs1'⟩ := l9h hE36 hH35 hH2 hP1 hP2 hP3 hP4 hP0 hs1
 obtain ⟨Hhs2', HGAn⟩ := l2h hs2 hGAn
 have HGAc' := lh (show GA.toList = [gr].flatMap Gr'.cs by rw [hGAc]; simp)
 obtain ⟨HGAb, Hq, HGE, HV, HK⟩ := l5h hGAb hq hGE hv hk
 clear hCL hrB hKb hEb hHb hZb hPb hE36 hH35 hH2 hP1 hP2 hP3 hP4 hP0 hs1 hs2 hq hGE hGAc hGAb hGA hE0 hEF hH0 hHF hHZ hP hP1r hPS hPZ hC htt hgg huu hvv hbb hv hk V1 V2 V3 V4 V5 V6 V7 V8 V9 VA VB VC VD hE0n hEFn hH0n hHFn hHZn hPn hP1n hPSn hPZn hCn
 obtain ⟨w0, rfl⟩ : ∃ w0 : World, w0 = w := ⟨_, rfl⟩
 have HBL0 := lh (Below.refl w0.heap.size w0)
 have z0 := HBL0.out.size
 go_enter func6, ntmps6
 go_wp2_with (first | (refine EntQ.Cg rfl 40 _ rfl #[.string ⟨#[115]⟩, .int .i64 1, .int .i64 0] (by first | exact HhKb'.out | (go_simp; exact HhKb'.out)) ?_) | fail)
 refine (Make_s w0 (HK.out.below HBL0.out)).mono ?_
 rintro e w1 ⟨R, v, rfl, hR, hb⟩
 have hRg := hR.ge
 have HR1 := lh hR
 clear hR
 have HBL1 := tbB HBL0 hb
 have z1 := HBL1.out.size
 clear hb z0 
 go_wp2_with fail
 refine (W4.out w0 w1 R 0 v HR1.out).mono ?_
 rintro e w2 ⟨rfl, hb⟩
 have HR2 := lh (FP HR1.out hb)
 have HBL2 := tbB HBL1 hb
 have z2 := HBL2.out.size
 clear hb z1 
 go_wp2_with (first | (refine EntQ.Cg rfl 47 _ rfl GA (by first | exact HGAb.out | (go_simp; exact HGAb.out)) ?_) | (refine EntQ.Cg rfl 51 _ rfl E0 (by first | exact HhEb'.out | (go_simp; exact HhEb'.out)) ?_) | fail)
 rw [EntQ.fold_any #[.int .i64 0, .int .i64 0, .int .i64 0, .int .i64 0, .int .u8 0, .int .u8 0, .int .u8 0, .int .u8 0, .int .u8 0, .int .u8 0, .int .u8 0, .int .u8 0, .int .u8 0, .int .u8 0, .int .u8 0, .int .u8 0, .int .u8 0, .int .u8 0, .int .u8 0, .int .u8 0, .int .u8 0, .int .u8 0, .int .u8 0, .int .u8 0, .int .u8 0, .int .u8 0, .int .u8 0, .int .u8 0, .int .u8 0, .int .u8 0, .int .u8 0, .int .u8 0, .int .u8 0, .int .u8 0, .int .u8 0, .int .u8 0] GA 36 rfl HGAn.out]
 obtain ⟨w3, hww⟩ : ∃ w', w' = w2.alloc (.cells GA 47) := ⟨_, rfl⟩
 rw [← hww]
 have hb : Below w2.heap.size w2 w3 := by rw [hww]; exact bAx
 have hy : w3.heap[w2.heap.size]? = some (.cells GA 47 (0, 0)) := by rw [hww]; exact AL _ _
 clear hww
 obtain ⟨BB, hBB⟩ := nXe (w2.heap.size)
 rw [← hBB] at hy ⊢
 have hRB : R < BB := by have := AB HR2.out.row; omega
 clear hBB
 have Hyn := lh hy
 clear hy
 have HR3 := lh (FP HR2.out hb)
 have HBL3 := tbB HBL2 hb
 have z3 := HBL3.out.size
 clear hb z2 
 have HB3 := lh Hyn.out
 have lB3 := AB HB3.out
 clear Hyn
 refine (W1.out w0 w3 R v HR3.out (HK.out.below HBL3.out) (HV.out.below HBL3.out)).mono ?_
 rintro e w4 ⟨rfl, hRn, hE⟩
 have HB4 := lh (hE.CS HB3.out (fun h => by omega))
 have lB4 := AB HB4.out
 have HBL4 := lh (Bl.ext HBL3.out hE (fun k h1 h => by omega))
 have z4 := HBL4.out.size
 clear hE z3 lB3
 have HR4 := lh hRn
 clear hRn
 go_wp2_with (first | (refine AC rfl _ _ _ rfl w4.heap.size EF rfl rfl _ _ (AL _ _) HEFS.out (by rw [← HEFN.out]; rfl) HEFO.out ?_) | fail)
 intro u1 hu1
 have hb : Below w4.heap.size w4 u1 := by rw [hu1.out]; exact AQ bAx nR _
 have hy : u1.heap[w4.heap.size]? = some (.cells EF 51 (0, 0)) := by rw [hu1.out]; exact AR (AL _ _)
 clear hu1
 obtain ⟨w5, hww⟩ : ∃ w', w' = u1 := ⟨_, rfl⟩
 rw [← hww] at hb hy ⊢
 clear hww
 obtain ⟨BE, hBE⟩ := nXe (w4.heap.size)
 rw [← hBE] at hy ⊢
 have gE : w0.heap.size ≤ BE := by omega
 have hRE : R < BE := by have := AB HR4.out.row; omega
 clear hBE
 have Hyn := lh hy
 clear hy
 have HB5 := lh ((hb.block _ lB4).trans HB4.out)
 have lB5 := AB HB5.out
 have HR5 := lh (FP HR4.out hb)
 have HBL5 := tbB HBL4 hb
 have z5 := HBL5.out.size
 clear hb z4 lB4
 have HE5 := lh Hyn.out
 have lE5 := AB HE5.out
 clear Hyn
 go_wp2_with (first | (refine EntQ.Cg rfl 29 _ rfl H0 (by first | exact HhHb'.out | (go_simp; exact HhHb'.out)) ?_) | fail)
 refine (W2.out w0 w5 R v HR5.out (HK.out.below HBL5.out) (HV.out.below HBL5.out)).mono ?_
 rintro e w6 ⟨rfl, hRn, hE⟩
 have HB6 := lh (hE.CS HB5.out (fun h => by omega))
 have lB6 := AB HB6.out
 have HE6 := lh (hE.CS HE5.out (fun h => by omega))
 have lE6 := AB HE6.out
 have HBL6 := lh (Bl.ext HBL5.out hE (fun k h1 h => by omega))
 have z6 := HBL6.out.size
 clear hE z5 lB5 lE5
 have HR6 := lh hRn
 clear hRn
 go_wp2_with (first | (refine AC rfl _ _ _ rfl w6.heap.size HF rfl rfl _ _ (AL _ _) HHFS.out (by rw [← HHFN.out]; rfl) HHFO.out ?_) | fail)
 intro u1 hu1
 have hb : Below w6.heap.size w6 u1 := by rw [hu1.out]; exact AQ bAx nR _
 have hy : u1.heap[w6.heap.size]? = some (.cells HF 29 (0, 0)) := by rw [hu1.out]; exact AR (AL _ _)
 clear hu1
 obtain ⟨w7, hww⟩ : ∃ w', w' = u1 := ⟨_, rfl⟩
 rw [← hww] at hb hy ⊢
 clear hww
 obtain ⟨BH, hBH⟩ := nXe (w6.heap.size)
 rw [← hBH] at hy ⊢
 have gH : w0.heap.size ≤ BH := by omega
 clear hBH
 have Hyn := lh hy
 clear hy
 have HB7 := lh ((hb.block _ lB6).trans HB6.out)
 have lB7 := AB HB7.out
 have HE7 := lh ((hb.block _ lE6).trans HE6.out)
 have lE7 := AB HE7.out
 have HBL7 := tbB HBL6 hb
 have z7 := HBL7.out.size
 clear hb z6 lB6 lE6
 have HH7 := lh Hyn.out
 have lH7 := AB HH7.out
 clear Hyn
 go_wp2_with (first | (refine wpList_load_row rfl _ _ rfl BE rfl _ EF (0, 0) _ HE7.out underlying51 rfl HEFS.out ?_) | fail)
 refine (W3.out w7 (HV.out.below HBL7.out)).mono ?_
 rintro e w8 ⟨rfl, hb⟩
 have HB8 := lh ((hb.block _ lB7).trans HB7.out)
 have lB8 := AB HB8.out
 have HE8 := lh ((hb.block _ lE7).trans HE7.out)
 have lE8 := AB HE8.out
 have HH8 := lh ((hb.block _ lH7).trans HH7.out)
 have lH8 := AB HH8.out
 have HBL8 := tbB HBL7 hb
 have z8 := HBL8.out.size
 clear hb z7 lB7 lE7 lH7
 go_wp2_with (first | (refine wpList_load_row rfl _ _ rfl BH rfl _ HF (0, 0) _ HH8.out underlying29 rfl HHFS.out ?_) | fail)
 refine (W5.out w8 (HV.out.below HBL8.out)).mono ?_
 rintro e w9 ⟨rfl, hb⟩
 have HB9 := lh ((hb.block _ lB8).trans HB8.out)
 have lB9 := AB HB9.out
 have HE9 := lh ((hb.block _ lE8).trans HE8.out)
 have lE9 := AB HE9.out
 have HH9 := lh ((hb.block _ lH8).trans HH8.out)
 have lH9 := AB HH9.out
 have HBL9 := tbB HBL8 hb
 have z9 := HBL9.out.size
 clear hb z8 lB8 lE8 lH8
 have cE := (AO (j := 36) HE9.out).trans HhE36'.out
 have cH := (AO (j := 35) HH9.out).trans HhH35'.out
 go_wp2_with (first | ((refine EntQ.Cg rfl 24 _ rfl P (by first | exact HhPb'.out | (go_simp; exact HhPb'.out)) ?_)) | (refine AC rfl _ _ _ rfl w9.heap.size P rfl rfl _ _ (AL _ _) HPS.out (by rw [← HPN.out]; rfl) HPO.out ?_) | fail)
 intro u1 hu1
 have hb : Below w9.heap.size w9 u1 := by rw [hu1.out]; exact AQ bAx nR _
 have hy : u1.heap[w9.heap.size]? = some (.cells P 24 (0, 0)) := by rw [hu1.out]; exact AR (AL _ _)
 clear hu1
 obtain ⟨w10, hww⟩ : ∃ w', w' = u1 := ⟨_, rfl⟩
 rw [← hww] at hb hy ⊢
 clear hww
 obtain ⟨BP, hBP⟩ := nXe (w9.heap.size)
 rw [← hBP] at hy ⊢
 have gP : w0.heap.size ≤ BP := by omega
 clear hBP
 have Hyn := lh hy
 clear hy
 have HB10 := lh ((hb.block _ lB9).trans HB9.out)
 have lB10 := AB HB10.out
 have HE10 := lh ((hb.block _ lE9).trans HE9.out)
 have lE10 := AB HE10.out
 have HH10 := lh ((hb.block _ lH9).trans HH9.out)
 have lH10 := AB HH10.out
 have HBL10 := tbB HBL9 hb
 have z10 := HBL10.out.size
 clear hb z9 lB9 lE9 lH9
 have HP10 := lh Hyn.out
 have lP10 := AB HP10.out
 clear Hyn
 clear cE cH
 go_wp2_with fail
 refine (W6.out w10 (HV.out.below HBL10.out) (HK.out.below HBL10.out)).mono ?_
 rintro e w11 ⟨rfl, hb⟩
 have HB11 := lh ((hb.block _ lB10).trans HB10.out)
 have lB11 := AB HB11.out
 have HE11 := lh ((hb.block _ lE10).trans HE10.out)
 have lE11 := AB HE11.out
 have HH11 := lh ((hb.block _ lH10).trans HH10.out)
 have lH11 := AB HH11.out
 have HP11 := lh ((hb.block _ lP10).trans HP10.out)
 have lP11 := AB HP11.out
 have HBL11 := tbB HBL10 hb
 have z11 := HBL11.out.size
 clear hb z10 lB10 lE10 lH10 lP10
 go_wp2_with (first | (refine AC rfl _ _ _ rfl w11.heap.size H0 rfl rfl _ _ (AL _ _) HH0S.out (by rw [← HH0N.out]; rfl) HH0O.out ?_) | fail)
 intro u1 hu1
 have hb : Below w11.heap.size w11 u1 := by rw [hu1.out]; exact AQ bAx nR _
 have hy : u1.heap[w11.heap.size]? = some (.cells H0 29 (0, 0)) := by rw [hu1.out]; exact AR (AL _ _)
 clear hu1
 obtain ⟨w12, hww⟩ : ∃ w', w' = u1 := ⟨_, rfl⟩
 rw [← hww] at hb hy ⊢
 clear hww
 obtain ⟨BX, hBX⟩ := nXe (w11.heap.size)
 rw [← hBX] at hy ⊢
 have gX : w0.heap.size ≤ BX := by omega
 clear hBX
 have Hyn := lh hy
 clear hy
 have HB12 := lh ((hb.block _ lB11).trans HB11.out)
 have lB12 := AB HB12.out
 have HE12 := lh ((hb.block _ lE11).trans HE11.out)
 have lE12 := AB HE12.out
 have HH12 := lh ((hb.block _ lH11).trans HH11.out)
 have lH12 := AB HH12.out
 have HP12 := lh ((hb.block _ lP11).trans HP11.out)
 have lP12 := AB HP12.out
 have HBL12 := tbB HBL11 hb
 have z12 := HBL12.out.size
 clear hb z11 lB11 lE11 lH11 lP11
 have HX12 := lh Hyn.out
 have lX12 := AB HX12.out
 clear Hyn
 go_wp2_with (first | (refine wpList_load_row rfl _ _ rfl BP rfl _ P (0, 0) _ HP12.out underlying24 rfl HPS.out ?_) | fail)
 refine (W8.out w12).mono ?_
 rintro e w13 ⟨rfl, hb⟩
 have HB13 := lh ((hb.block _ lB12).trans HB12.out)
 have lB13 := AB HB13.out
 have HE13 := lh ((hb.block _ lE12).trans HE12.out)
 have lE13 := AB HE13.out
 have HH13 := lh ((hb.block _ lH12).trans HH12.out)
 have lH13 := AB HH13.out
 have HP13 := lh ((hb.block _ lP12).trans HP12.out)
 have lP13 := AB HP13.out
 have HX13 := lh ((hb.block _ lX12).trans HX12.out)
 have lX13 := AB HX13.out
 have HBL13 := tbB HBL12 hb
 have z13 := HBL13.out.size
 clear hb z12 lB12 lE12 lH12 lP12 lX12
 go_wp2_with fail
 refine (W9.out w13).mono ?_
 rintro e w14 ⟨rfl, hb⟩
 have HB14 := lh ((hb.block _ lB13).trans HB13.out)
 have lB14 := AB HB14.out
 have HE14 := lh ((hb.block _ lE13).trans HE13.out)
 have lE14 := AB HE14.out
 have HH14 := lh ((hb.block _ lH13).trans HH13.out)
 have lH14 := AB HH14.out
 have HP14 := lh ((hb.block _ lP13).trans HP13.out)
 have lP14 := AB HP14.out
 have HX14 := lh ((hb.block _ lX13).trans HX13.out)
 have lX14 := AB HX14.out
 have HBL14 := tbB HBL13 hb
 have z14 := HBL14.out.size
 clear hb z13 lB13 lE13 lH13 lP13 lX13
 go_wp2_with (first | (refine AC rfl _ _ _ rfl w14.heap.size P rfl rfl _ _ (AL _ _) HPS.out (by rw [← HPN.out]; rfl) HPO.out ?_) | fail)
 intro u1 hu1
 have hb : Below w14.heap.size w14 u1 := by rw [hu1.out]; exact AQ bAx nR _
 have hy : u1.heap[w14.heap.size]? = some (.cells P 24 (0, 0)) := by rw [hu1.out]; exact AR (AL _ _)
 clear hu1
 obtain ⟨w15, hww⟩ : ∃ w', w' = u1 := ⟨_, rfl⟩
 rw [← hww] at hb hy ⊢
 clear hww
 obtain ⟨BQ, hBQ⟩ := nXe (w14.heap.size)
 rw [← hBQ] at hy ⊢
 have gQ : w0.heap.size ≤ BQ := by omega
 clear hBQ
 have Hyn := lh hy
 clear hy
 have HB15 := lh ((hb.block _ lB14).trans HB14.out)
 have lB15 := AB HB15.out
 have HE15 := lh ((hb.block _ lE14).trans HE14.out)
 have lE15 := AB HE15.out
 have HH15 := lh ((hb.block _ lH14).trans HH14.out)
 have lH15 := AB HH15.out
 have HP15 := lh ((hb.block _ lP14).trans HP14.out)
 have lP15 := AB HP15.out
 have HX15 := lh ((hb.block _ lX14).trans HX14.out)
 have lX15 := AB HX15.out
 have HBL15 := tbB HBL14 hb
 have z15 := HBL15.out.size
 clear hb z14 lB14 lE14 lH14 lP14 lX14
 have HQ15 := lh Hyn.out
 have lQ15 := AB HQ15.out
 clear Hyn
 go_wp2_with fail
 refine (W7.out w15 (HV.out.below HBL15.out) (HK.out.below HBL15.out)).mono ?_
 rintro e w16 ⟨rfl, hb⟩
 have HB16 := lh ((hb.block _ lB15).trans HB15.out)
 have lB16 := AB HB16.out
 have HE16 := lh ((hb.block _ lE15).trans HE15.out)
 have lE16 := AB HE16.out
 have HH16 := lh ((hb.block _ lH15).trans HH15.out)
 have lH16 := AB HH16.out
 have HP16 := lh ((hb.block _ lP15).trans HP15.out)
 have lP16 := AB HP16.out
 have HX16 := lh ((hb.block _ lX15).trans HX15.out)
 have lX16 := AB HX16.out
 have HQ16 := lh ((hb.block _ lQ15).trans HQ15.out)
 have lQ16 := AB HQ16.out
 have HBL16 := tbB HBL15 hb
 have z16 := HBL16.out.size
 clear hb z15 lB15 lE15 lH15 lP15 lX15 lQ15
 go_wp2_with (first | (refine AC rfl _ _ _ rfl w16.heap.size HZ rfl rfl _ _ (AL _ _) HHZS.out (by rw [← HHZN.out]; rfl) HHZO.out ?_) | fail)
 intro u1 hu1
 have hb : Below w16.heap.size w16 u1 := by rw [hu1.out]; exact AQ bAx nR _
 have hy : u1.heap[w16.heap.size]? = some (.cells HZ 29 (0, 0)) := by rw [hu1.out]; exact AR (AL _ _)
 clear hu1
 obtain ⟨w17, hww⟩ : ∃ w', w' = u1 := ⟨_, rfl⟩
 rw [← hww] at hb hy ⊢
 clear hww
 obtain ⟨BZ, hBZ⟩ := nXe (w16.heap.size)
 rw [← hBZ] at hy ⊢
 have gZ : w0.heap.size ≤ BZ := by omega
 clear hBZ
 have Hyn := lh hy
 clear hy
 have HB17 := lh ((hb.block _ lB16).trans HB16.out)
 have lB17 := AB HB17.out
 have HE17 := lh ((hb.block _ lE16).trans HE16.out)
 have lE17 := AB HE17.out
 have HH17 := lh ((hb.block _ lH16).trans HH16.out)
 have lH17 := AB HH17.out
 have HP17 := lh ((hb.block _ lP16).trans HP16.out)
 have lP17 := AB HP17.out
 have HX17 := lh ((hb.block _ lX16).trans HX16.out)
 have lX17 := AB HX17.out
 have HQ17 := lh ((hb.block _ lQ16).trans HQ16.out)
 have lQ17 := AB HQ17.out
 have HBL17 := tbB HBL16 hb
 have z17 := HBL17.out.size
 clear hb z16 lB16 lE16 lH16 lP16 lX16 lQ16
 have HZ17 := lh Hyn.out
 have lZ17 := AB HZ17.out
 clear Hyn
 go_wp2_with (first | (refine wpList_load_row rfl _ _ rfl BP rfl _ P (0, 0) _ HP17.out underlying24 rfl HPS.out ?_) | (refine AC rfl _ _ _ rfl w17.heap.size P rfl rfl _ _ (AL _ _) HPS.out (by rw [← HPN.out]; rfl) HPO.out ?_) | fail)
 intro u1 hu1
 have hb : Below w17.heap.size w17 u1 := by rw [hu1.out]; exact AQ bAx nR _
 have hy : u1.heap[w17.heap.size]? = some (.cells P 24 (0, 0)) := by rw [hu1.out]; exact AR (AL _ _)
 clear hu1
 obtain ⟨w18, hww⟩ : ∃ w', w' = u1 := ⟨_, rfl⟩
 rw [← hww] at hb hy ⊢
 clear hww
 obtain ⟨BD, hBD⟩ := nXe (w17.heap.size)
 rw [← hBD] at hy ⊢
 have gD : w0.heap.size ≤ BD := by omega
 have oPD : BP < BD := by have := lP17; omega
 have oQD : BQ < BD := by have := lQ17; omega
 have oXD : BX < BD := by have := lX17; omega
 have oBD : BB < BD := by have := lB17; omega
 clear hBD
 have Hyn := lh hy
 clear hy
 have HB18 := lh ((hb.block _ lB17).trans HB17.out)
 have lB18 := AB HB18.out
 have HE18 := lh ((hb.block _ lE17).trans HE17.out)
 have lE18 := AB HE18.out
 have HH18 := lh ((hb.block _ lH17).trans HH17.out)
 have lH18 := AB HH18.out
 have HP18 := lh ((hb.block _ lP17).trans HP17.out)
 have lP18 := AB HP18.out
 have HX18 := lh ((hb.block _ lX17).trans HX17.out)
 have lX18 := AB HX18.out
 have HQ18 := lh ((hb.block _ lQ17).trans HQ17.out)
 have lQ18 := AB HQ18.out
 have HZ18 := lh ((hb.block _ lZ17).trans HZ17.out)
 have lZ18 := AB HZ18.out
 have HBL18 := tbB HBL17 hb
 have z18 := HBL18.out.size
 clear hb z17 lB17 lE17 lH17 lP17 lX17 lQ17 lZ17
 have HD18 := lh Hyn.out
 have lD18 := AB HD18.out
 clear Hyn
 obtain ⟨cy, fy⟩ := AJ HD18.out
 have kD0 := (cy 0).trans HhP0'.out
 have fD0 := fy 0
 clear cy fy
 obtain ⟨wA, hwA⟩ := nXe ((w18.setCell ⟨BD, 0, none⟩ (.int .i64 1)))
 have HPA := lh (show wA.heap[BP]? = some (.cells P 24 (0, 0)) by rw [hwA, AX _ (by omega)]; exact HP18.out)
 have HQA := lh (show wA.heap[BQ]? = some (.cells P 24 (0, 0)) by rw [hwA, AX _ (by omega)]; exact HQ18.out)
 have HXA := lh (show wA.heap[BX]? = some (.cells H0 29 (0, 0)) by rw [hwA, AX _ (by omega)]; exact HX18.out)
 have HBA := lh (show wA.heap[BB]? = some (.cells GA 47 (0, 0)) by rw [hwA, AX _ (by omega)]; exact HB18.out)
 have HDA := lh (show wA.heap[BD]? = some (.cells P1 24 (0, 0)) by rw [hwA, ← Hhs1'.out]; exact heap_setCell_same HD18.out _)
 have HBLA := lh (show Below w0.heap.size w0 wA by rw [hwA]; exact HBL18.out.setCell (p := ⟨BD, 0, none⟩) (by show w0.heap.size ≤ BD; omega) _)
 have HWA := lh hwA
 clear hwA
 have hBDA := AB HDA.out
 go_wp2_with (first | (rw [← HWA.out]; refine wpList_load_row rfl _ _ rfl BP rfl _ P (0, 0) _ HPA.out underlying24 rfl HPS.out ?_) | (refine AC rfl _ _ _ rfl wA.heap.size P rfl rfl _ _ (AL _ _) HPS.out (by rw [← HPN.out]; rfl) HPO.out ?_) | fail)
 intro u1 hu1
 obtain ⟨wB, hww⟩ : ∃ w', w' = u1 := ⟨_, rfl⟩
 rw [← hww] at hu1 ⊢
 clear hww
 have hb : Below wA.heap.size wA wB := by rw [hu1.out]; exact AQ bAx nR _
 have HSB := lh (show wB.heap[wA.heap.size]? = some (.cells P 24 (0, 0)) by rw [hu1.out]; exact AR (AL _ _))
 obtain ⟨BS, hBS⟩ := nXe (wA.heap.size)
 rw [← hBS] at HSB ⊢
 have hDS : BD < BS := by omega
 have HPB := kpB hb HPA
 have HQB := kpB hb HQA
 have HXB := kpB hb HXA
 have HBB := kpB hb HBA
 have HDB := kpB hb HDA
 have HBLB := tbB HBLA hb
 have hBS0 : w0.heap.size ≤ BS := by have := HBLA.out.size; omega
 clear hb hu1 hBS hBDA kD0 fD0
 obtain ⟨cy, fy⟩ := AJ HSB.out
 have k1 := (cy 1).trans HhP1'.out
 have k2 := (cy 2).trans HhP2'.out
 have k3 := (cy 3).trans HhP3'.out
 have k4 := (cy 4).trans HhP4'.out
 have f3 := fy 3
 have f4 := fy 4
 clear cy fy
 obtain ⟨wC, hwC⟩ := nXe ((wB.setCell ⟨BS, 3, none⟩ (.string tt)).setCell ⟨BS, 4, none⟩ (.string gg))
 have HPC := lh (show wC.heap[BP]? = some (.cells P 24 (0, 0)) by rw [hwC, AX _ (by omega), AX _ (by omega)]; exact HPB.out)
 have HQC := lh (show wC.heap[BQ]? = some (.cells P 24 (0, 0)) by rw [hwC, AX _ (by omega), AX _ (by omega)]; exact HQB.out)
 have HXC := lh (show wC.heap[BX]? = some (.cells H0 29 (0, 0)) by rw [hwC, AX _ (by omega), AX _ (by omega)]; exact HXB.out)
 have HBC := lh (show wC.heap[BB]? = some (.cells GA 47 (0, 0)) by rw [hwC, AX _ (by omega), AX _ (by omega)]; exact HBB.out)
 have HDC := lh (show wC.heap[BD]? = some (.cells P1 24 (0, 0)) by rw [hwC, AX _ (by omega), AX _ (by omega)]; exact HDB.out)
 have HSC := lh (show wC.heap[BS]? = some (.cells PS 24 (0, 0)) by rw [hwC, ← Hhs2'.out]; exact heap_setCell_same (heap_setCell_same HSB.out _) _)
 have HBLC := lh (show Below w0.heap.size w0 wC by rw [hwC]; exact (HBLB.out.setCell (p := ⟨BS, 3, none⟩) (by show w0.heap.size ≤ BS; omega) _).setCell (p := ⟨BS, 4, none⟩) (by show w0.heap.size ≤ BS; omega) _)
 have HWC := lh hwC
 clear hwC
 have cX : wC.cell? ⟨BX, 2, none⟩ = some (.int .i64 5) := (AO HXC.out).trans HhH2'.out
 have hq := Hq.out
 have hGE := HGE.out
 iterate 32 go_step
 simp only [List.append_eq, List.cons_append, List.nil_append]
 go_wp2_with (first | (rw [← HWC.out]; refine WireT.Ad (by first | rfl | kernel_rfl) _ _ rfl BP rfl _ P (0, 0) _ HPC.out underlying24 rfl HPS.out ?_) | fail)
 refine (WA.out wC _ (HV.out.below HBLC.out) (HK.out.below HBLC.out) (by rw [← HGAc'.out]; exact EntQ.Gw HBC.out HGAn.out)).mono ?_
 rintro e wa ⟨rfl, hb⟩
 have HPa := kpB hb HPC
 have HQa := kpB hb HQC
 have HXa := kpB hb HXC
 have HBa := kpB hb HBC
 have HDa := kpB hb HDC
 have HSa := kpB hb HSC
 have HBLa := tbB HBLC hb
 clear hb
 have cX : wa.cell? ⟨BX, 2, none⟩ = some (.int .i64 5) := (AO HXa.out).trans HhH2'.out
 go_wp2_with (first | (refine WireT.Ad (by first | rfl | kernel_rfl) _ _ rfl BQ rfl _ P (0, 0) _ HQa.out underlying24 rfl HPS.out ?_) | (refine WireT.Ad (by first | rfl | kernel_rfl) _ _ rfl BP rfl _ P (0, 0) _ HPa.out underlying24 rfl HPS.out ?_) | (refine WireT.Ad (by first | rfl | kernel_rfl) _ _ rfl BD rfl _ P1 (0, 0) _ HDa.out underlying24 rfl HP1S.out ?_) | fail)
 refine (WB.out wa _ (HV.out.below HBLa.out) (HK.out.below HBLa.out) (by rw [← HGAc'.out]; exact EntQ.Gw HBa.out HGAn.out)).mono ?_
 rintro e wb ⟨rfl, hb⟩
 have HPb := kpB hb HPa
 have HQb := kpB hb HQa
 have HXb := kpB hb HXa
 have HBb := kpB hb HBa
 have HDb := kpB hb HDa
 have HSb := kpB hb HSa
 have HBLb := tbB HBLa hb
 clear hb
 go_wp2_with (first | (refine WireT.Ad (by first | rfl | kernel_rfl) _ _ rfl BS rfl _ PS (0, 0) _ HSb.out underlying24 rfl HPSS.out ?_) | fail)
 refine (WC.out wb _ (HV.out.below HBLb.out) (HK.out.below HBLb.out) (by rw [← HGAc'.out]; exact EntQ.Gw HBb.out HGAn.out)).mono ?_
 rintro e wc ⟨rfl, hb⟩
 have HPc := kpB hb HPb
 have HQc := kpB hb HQb
 have HXc := kpB hb HXb
 have HBc := kpB hb HBb
 have HDc := kpB hb HDb
 have HSc := kpB hb HSb
 have HBLc := tbB HBLb hb
 clear hb
 go_wp2_with (first | (refine HdQ_buildG (by first | rfl | kernel_rfl) 24 _ rfl PZ (by first | exact HhZb'.out | (go_simp; exact HhZb'.out)) ?_) | fail)
 refine (WD.out wc _ (HV.out.below HBLc.out) (HK.out.below HBLc.out) (by rw [← HGAc'.out]; exact EntQ.Gw HBc.out HGAn.out)).mono ?_
 rintro e wd ⟨rfl, hb⟩
 have HPd := kpB hb HPc
 have HQd := kpB hb HQc
 have HXd := kpB hb HXc
 have HBd := kpB hb HBc
 have HDd := kpB hb HDc
 have HSd := kpB hb HSc
 have HBLd := tbB HBLc hb
 clear hb
 go_wp2
 go_ret
 exact ⟨rfl, HBLd.out⟩
end Go.Proofs.YtadofbbpfgmclaaGreatDoor.PfQ
