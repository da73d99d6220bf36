/-
  WHAT IS PROVED: contracts and plain laws. Condition: each names its own.
-/
import Derived.Test.YtceiajepcokacaaGreatDoorS0
import Derived.Test.YtceiajepcokacaaGreatDoorZH28
import Derived.Test.YtceiajepcokacaaGreatDoorZH30
set_option linter.unusedVariables false
set_option linter.unusedSimpArgs false
set_option maxRecDepth 100000
set_option maxHeartbeats 4000000
namespace Go.Proofs.YtceiajepcokacaaGreatDoor
open Go.Proofs.Tryz
namespace EntZ
open Go Go.RowKit Go.Shelf OctetS IdentS EntS OctP OctG IdentP EntP EventC EventP ShaA Steps KeyA TreeA OctQ EntX EntB
theorem GQ (w : World) (s : ByteArray) (hs : s.size ≤ 140737488351232) : Calls Tryz.prog 98 #[.string s] w fun e w' => e = .returned (.agg (byV (ShaS.sum (bl s))).toArray) ∧ Below w.heap.size w w' := by
 have h := R2M.Ee w s hs
 have he : ShaB.pB 32 (ShaS.sum (bl s)) = (byV (ShaS.sum (bl s))).toArray := by
  unfold ShaB.pB
  rw [ShaS.Bb]
  simp
 rw [he] at h
 exact h
theorem Ee (w : World) (p : Array Value) (r : ByteArray) (ep ix : Int) (pv : List UInt8) (e s : ByteArray) (hp : EntP p r ep ix pv e s) (hv : Am w) (hk : Au w) (hr : r.size ≤ 140737488351232) (he : e.size ≤ maxLen) (hs : s.size ≤ maxLen) :
 Calls Tryz.prog 69 #[.agg p] w (KeyA.RB (.tuple #[.agg (sumE (Bp r ep ix pv e s)).A, .int .i64 (CW (EntS.BD (Bp r ep ix pv e s)))]) w) := by
 have hT := fun w => EntR.DR w p r ep ix pv e s hp hr he hs
 unfold EntS.textOf at hT
 unfold sumE
 have hps := hp.size
 have hpi : (Tryz.prog.info? 81).map (·.size) = some 37 := by kernel_rfl
 rw [← hps] at hpi
 have HI := lh hpi
 obtain ⟨Z, hZ⟩ := nXe (CQ.A)
 have HLIT : Hid (zq0 Z) := lh (by rw [hZ]; unfold zq0; kernel_rfl)
 have HZN : Hid (Z.size = 32) := lh (by rw [hZ]; kernel_rfl)
 have HZS : Hid ((Tryz.prog.info? 44).map (·.size) = some Z.size) := lh (by rw [hZ]; exact H32.info _)
 have HZO : Hid (Z.all (·.oneCell') = true) := lh (by rw [hZ]; exact H32.one _)
 obtain ⟨w0, hw0⟩ := nXe ((w.alloc (.cells p 81)).alloc (.cells Z 44))
 have hb0 : Below w.heap.size w w0 := by rw [hw0]; exact ((Below.refl _ w).alloc nR _).alloc (by simp) _
 have HX0 := lh (show w0.heap[w.heap.size]? = some (.cells p 81 (0, 0)) by rw [hw0]; exact Ak (AL _ _) _)
 have HZ0 := lh (show w0.heap[w.heap.size + 1]? = some (.cells Z 44 (0, 0)) by rw [hw0]; exact Ad _ (by simp))
 obtain ⟨HBL0, HW0, HV0, HK0⟩ := l4h hb0 hw0 (hv.below hb0) (hk.below hb0)
 cases hchk : EntS.BD (Bp r ep ix pv e s)
 ·skip
  rw [hchk] at hT
  rw [if_neg (by simp), ← hZ]
  have HT := lh hT
  clear hT hchk hr he hs hp hb0 hv hk hw0 hZ hpi hps
  go_enter func69, ntmps69
  go_wp2_with (first | (rw [HLIT.out, ← HW0.out]; refine wpList_load_row rfl _ _ rfl w.heap.size rfl _ p (0, 0) _ HX0.out underlying81 rfl HI.out ?_) | fail)
  refine (HT.out w0).mono ?_
  rintro e' w1 ⟨rfl, hb⟩
  have HBL1 := tbB HBL0 hb
  have HZ1 := kpB hb HZ0
  clear hb
  unfold CW
  go_wp2_with (first | (refine AC rfl _ _ _ rfl (w.heap.size + 1) Z rfl (by rw [← HLIT.out]; rfl) _ _ HZ1.out HZS.out rfl HZO.out ?_) | fail)
  intro wf hwf
  go_wp2
  refine bodyPost_ret (v := .tuple #[.agg Z, .int .i64 2]) (WireT.AU rfl _ _ (w.heap.size + 1) 44 Z (0, 0) _ rfl (by rw [hwf.out]; exact AR HZ1.out) underlying44 rfl HZS.out rfl) rfl ⟨rfl, by rw [hwf.out]; exact AQ HBL1.out (by omega) _⟩
 ·skip
  rw [hchk] at hT
  rw [if_pos rfl] at hT ⊢
  have hR := EntS.Bw.1 hchk
  have hlen := ent_len hR hp.len
  obtain ⟨t, ht⟩ := nXe (EntS.text (Bp r ep ix pv e s))
  rw [← ht] at hT hlen ⊢
  obtain ⟨R, hRe⟩ := nXe ((sumH t).A)
  have HRS : Hid ((Tryz.prog.info? 44).map (·.size) = some R.size) := lh (by rw [hRe]; exact H32.info _)
  have HRN : Hid (Z.size = R.size) := lh (by rw [hRe, H32.size]; exact HZN.out)
  have HRO : Hid (R.all (·.oneCell') = true) := lh (by rw [hRe]; exact H32.one _)
  obtain ⟨Tb, hTb⟩ := nXe (bsOf t)
  rw [← hTb] at hT
  have hS := fun w => GQ w Tb (by rw [hTb, AY]; omega)
  have hRR : (byV (ShaS.sum (bl Tb))).toArray = R := by rw [hTb, AV, hRe, sumH_A]
  rw [hRR] at hS
  rw [← hRe]
  obtain ⟨HT, HS⟩ := l2h hT hS
  clear hT hS hRR hRe hTb ht hlen hR hchk hr he hs hp hb0 hv hk hw0 hZ hpi hps
  go_enter func69, ntmps69
  go_wp2_with (first | (rw [HLIT.out, ← HW0.out]; refine wpList_load_row rfl _ _ rfl w.heap.size rfl _ p (0, 0) _ HX0.out underlying81 rfl HI.out ?_) | fail)
  refine (HT.out w0).mono ?_
  rintro e' w1 ⟨rfl, hb⟩
  have HBL1 := tbB HBL0 hb
  have HZ1 := kpB hb HZ0
  have HK1 := lh (HK0.out.below hb)
  clear hb
  unfold CW
  go_wp2_with fail
  refine (HS.out w1).mono ?_
  rintro e' w2 ⟨rfl, hb⟩
  have HBL2 := tbB HBL1 hb
  have HZ2 := kpB hb HZ1
  clear hb
  go_wp2_with (first | (refine AC rfl _ _ _ rfl (w.heap.size + 1) R rfl rfl _ _ HZ2.out HRS.out HRN.out HRO.out ?_) | fail)
  intro wf hwf
  go_wp2
  refine bodyPost_ret (v := .tuple #[.agg R, .int .i64 0]) (WireT.AU rfl _ _ (w.heap.size + 1) 44 R (0, 0) _ rfl (by rw [hwf.out]; exact AR HZ2.out) underlying44 rfl HRS.out rfl) rfl ⟨rfl, by rw [hwf.out]; exact AQ HBL2.out (by omega) _⟩
end EntZ
namespace HdU
open Go Go.RowKit Go.Shelf OctetS IdentS EntS OctP OctQ OctG IdentP EntP EventC ShaA Steps KeyA KeyS KeyK TreeA WireT HdT
theorem MZ (w : World) (p : Array Value) (r : ByteArray) (ep ix : Int) (pv : List UInt8) (e s : ByteArray) (hp : EntP p r ep ix pv e s) (hv : Am w) (hk : Au w) (hr : r.size ≤ 140737488351232) (he : e.size ≤ maxLen) (hs : s.size ≤ maxLen) :
 Calls Tryz.prog 42 #[.agg p] w (RB (.tuple #[.agg (ofA r ep ix (Bp r ep ix pv e s)), .int .i64 (CW (EntS.BD (Bp r ep ix pv e s)))]) w) := by
 have hS := fun w hv hk => EntZ.Ee w p r ep ix pv e s hp hv hk hr he hs
 have hps := hp.size
 have hpi : (Tryz.prog.info? 81).map (·.size) = some 37 := by kernel_rfl
 rw [← hps] at hpi
 have HI := lh hpi
 have p0 := hp.c0
 have p1 := hp.c1
 have p2 := hp.c2
 unfold ofA
 obtain ⟨x, hx⟩ := nXe (Bp r ep ix pv e s)
 rw [← hx] at hS ⊢
 obtain ⟨X, hX⟩ := nXe (EntX.sumE x)
 obtain ⟨C, hC⟩ := nXe (X.A)
 rw [← hX, ← hC] at hS
 have HCS : Hid ((Tryz.prog.info? 44).map (·.size) = some C.size) := lh (by rw [hC]; exact X.info)
 have HCN : Hid (32 = C.size) := lh (by rw [hC]; exact X.size.symm)
 have HCO : Hid (C.all (·.oneCell') = true) := lh (by rw [hC]; exact X.one)
 obtain ⟨Z, hZ⟩ := nXe (hdZ)
 have HLIT : Hid (zq2 Z) := lh (by rw [hZ]; unfold zq2; kernel_rfl)
 have HZN : Hid (Z.size = 36) := lh (by rw [hZ]; rfl)
 have HZS : Hid ((Tryz.prog.info? 46).map (·.size) = some Z.size) := lh (by rw [HZN.out]; kernel_rfl)
 have HZO : Hid (Z.all (·.oneCell') = true) := lh (by rw [hZ]; exact Av _ _ _ _ _)
 obtain ⟨Y, hY⟩ := nXe (hdA r ep ix X.l ⟨#[]⟩)
 have hYn : Y.size = 36 := by rw [hY]; exact C8 X.len
 have HYS : Hid ((Tryz.prog.info? 46).map (·.size) = some Y.size) := lh (by rw [hYn]; kernel_rfl)
 have HYN : Hid (Z.size = Y.size) := lh (by rw [hYn]; exact HZN.out)
 have HYO : Hid (Y.all (·.oneCell') = true) := lh (by rw [hY]; exact Av _ _ _ _ _)
 have HYB : Hid (Tryz.prog.built 46 [(0, .string r), (1, .int .i64 ep), (2, .int .i64 ix), (3, .agg C)] = some Y) := lh (built_hd r ep ix X C Y hC hY)
 obtain ⟨w0, hw0⟩ := nXe ((w.alloc (.cells p 81)).alloc (.cells Z 46))
 have hb0 : Below w.heap.size w w0 := by rw [hw0]; exact ((Below.refl _ w).alloc nR _).alloc (by simp) _
 have HX0 := lh (show w0.heap[w.heap.size]? = some (.cells p 81 (0, 0)) by rw [hw0]; exact Ak (AL _ _) _)
 have HZ0 := lh (show w0.heap[w.heap.size + 1]? = some (.cells Z 46 (0, 0)) by rw [hw0]; exact Ad _ (by simp))
 obtain ⟨HBL0, HW0, HV0, HK0, HS⟩ := l5h hb0 hw0 (hv.below hb0) (hk.below hb0) hS
 have hres : (if EntS.BD x = true then hdA r ep ix (EntX.sumE x).l ⟨#[]⟩ else hdZ) = (if EntS.BD x = true then Y else Z) := by rw [hY, hX, hZ]
 rw [hres]
 obtain ⟨c, hc⟩ := nXe (EntS.BD x)
 rw [← hc] at HS ⊢
 obtain ⟨P0, P1, P2⟩ := l3h p0 p1 p2
 clear hS hps hpi p0 p1 p2 hX hC hZ hY hYn hw0 hb0 hv hk hr he hs hp hres hc hx
 cases c
 ·rw [if_neg (by simp)]
  have HS := lh (show ∀ w, Am w → Au w → Calls Tryz.prog 69 #[.agg p] w (RB (.tuple #[.agg C, .int .i64 2]) w) from HS.out)
  change Calls _ _ _ _ (RB (.tuple #[.agg Z, .int .i64 2]) w)
  go_enter func42, ntmps42
  go_wp2_with (first | (rw [HLIT.out, ← HW0.out]; refine wpList_load_row rfl _ _ rfl w.heap.size rfl _ p (0, 0) _ HX0.out underlying81 rfl HI.out ?_) | fail)
  refine (HS.out w0 HV0.out HK0.out).mono ?_
  rintro e' w1 ⟨rfl, hb⟩
  have HBL1 := tbB HBL0 hb
  have HX1 := kpB hb HX0
  have HZ1 := kpB hb HZ0
  have hlz := AJ HZ1.out
  clear hb
  go_wp2_with (first | (refine AC rfl _ _ _ rfl w1.heap.size C rfl rfl _ _ (AL _ _) HCS.out (by rw [← HCN.out]; rfl) HCO.out ?_) | fail)
  intro u1 hu1
  have hb : Below w1.heap.size w1 u1 := by rw [hu1.out]; exact AQ bAx nR _
  have hy : u1.heap[w1.heap.size]? = some (.cells C 44 (0, 0)) := by rw [hu1.out]; exact AR (AL _ _)
  clear hu1
  obtain ⟨w2, hww⟩ : ∃ w', w' = u1 := ⟨_, rfl⟩
  rw [← hww] at hb hy ⊢
  clear hww
  have HBL2 := tbB HBL1 hb
  have hx2 := (hb.block _ (AJ HX1.out)).trans HX1.out
  have HZ2 := kpB hb HZ1
  have HC2 := lh hy
  have k0 : w2.cell? ⟨w.heap.size, 0, none⟩ = some (.string r) := by rw [AO hx2]; exact P0.out
  have k1 : w2.cell? ⟨w.heap.size, 1, none⟩ = some (.int .i64 ep) := by rw [AO hx2]; exact P1.out
  have k2 : w2.cell? ⟨w.heap.size, 2, none⟩ = some (.int .i64 ix) := by rw [AO hx2]; exact P2.out
  clear hb hy hx2
  go_wp2_with (first | (refine AC rfl _ _ _ rfl (w.heap.size + 1) Z rfl (by rw [← HLIT.out]; rfl) _ _ HZ2.out HZS.out rfl HZO.out ?_) | fail)
  intro wf hwf
  go_wp2
  refine bodyPost_ret (v := .tuple #[.agg Z, .int .i64 2]) (WireT.AU rfl _ _ (w.heap.size + 1) 46 Z (0, 0) _ rfl (by rw [hwf.out]; exact AR HZ2.out) underlying46 rfl HZS.out rfl) rfl ⟨rfl, by rw [hwf.out]; exact AQ HBL2.out (by omega) _⟩
 ·rw [if_pos rfl]
  have HS := lh (show ∀ w, Am w → Au w → Calls Tryz.prog 69 #[.agg p] w (RB (.tuple #[.agg C, .int .i64 0]) w) from HS.out)
  change Calls _ _ _ _ (RB (.tuple #[.agg Y, .int .i64 0]) w)
  go_enter func42, ntmps42
  go_wp2_with (first | (rw [HLIT.out, ← HW0.out]; refine wpList_load_row rfl _ _ rfl w.heap.size rfl _ p (0, 0) _ HX0.out underlying81 rfl HI.out ?_) | fail)
  refine (HS.out w0 HV0.out HK0.out).mono ?_
  rintro e' w1 ⟨rfl, hb⟩
  have HBL1 := tbB HBL0 hb
  have HX1 := kpB hb HX0
  have HZ1 := kpB hb HZ0
  have hlz := AJ HZ1.out
  clear hb
  go_wp2_with (first | (refine AC rfl _ _ _ rfl w1.heap.size C rfl rfl _ _ (AL _ _) HCS.out (by rw [← HCN.out]; rfl) HCO.out ?_) | fail)
  intro u1 hu1
  have hb : Below w1.heap.size w1 u1 := by rw [hu1.out]; exact AQ bAx nR _
  have hy : u1.heap[w1.heap.size]? = some (.cells C 44 (0, 0)) := by rw [hu1.out]; exact AR (AL _ _)
  clear hu1
  obtain ⟨w2, hww⟩ : ∃ w', w' = u1 := ⟨_, rfl⟩
  rw [← hww] at hb hy ⊢
  clear hww
  have HBL2 := tbB HBL1 hb
  have hx2 := (hb.block _ (AJ HX1.out)).trans HX1.out
  have HZ2 := kpB hb HZ1
  have HC2 := lh hy
  have k0 : w2.cell? ⟨w.heap.size, 0, none⟩ = some (.string r) := by rw [AO hx2]; exact P0.out
  have k1 : w2.cell? ⟨w.heap.size, 1, none⟩ = some (.int .i64 ep) := by rw [AO hx2]; exact P1.out
  have k2 : w2.cell? ⟨w.heap.size, 2, none⟩ = some (.int .i64 ix) := by rw [AO hx2]; exact P2.out
  clear hb hy hx2
  go_wp2_with (first | (refine wpList_load_row rfl _ _ rfl w1.heap.size rfl _ C (0, 0) _ HC2.out underlying44 rfl HCS.out ?_) | (refine EntQ.CF rfl 46 _ rfl Y (by first | exact HYB.out | (go_simp; exact HYB.out)) ?_) | (refine AC rfl _ _ _ rfl (w.heap.size + 1) Y rfl rfl _ _ HZ2.out HYS.out HYN.out HYO.out ?_) | fail)
  intro wf hwf
  go_wp2
  refine bodyPost_ret (v := .tuple #[.agg Y, .int .i64 0]) (WireT.AU rfl _ _ (w.heap.size + 1) 46 Y (0, 0) _ rfl (by rw [hwf.out]; exact AR HZ2.out) underlying46 rfl HYS.out rfl) rfl ⟨rfl, by rw [hwf.out]; exact AQ HBL2.out (by omega) _⟩
end HdU
namespace PfB
open Go Go.RowKit Go.Shelf OctetS IdentS EntS OctP OctQ OctG IdentP EntP EventC ShaA Steps KeyA TreeA WireS WireT BookA BkF PfS PfA
theorem Lc (w : World) (s : ByteArray) (hs : s.size ≤ 140737488351232) (hv : Am w) (hk : Au w) : Calls Tryz.prog 22 #[.string s] w (RB (hdV (says (bl s))) w) := by
 obtain ⟨F, y, r, ep, ix, pv, g, hFP, hF, hFo⟩ := hd_says (bl s)
 rw [hF]
 have HFS := lh (show (Tryz.prog.info? 46).map (·.size) = some F.size by rw [hFP.size]; kernel_rfl)
 have HFN := lh (show 36 = F.size from hFP.size.symm)
 have HFO := lh hFo
 obtain ⟨Z, hZ⟩ := nXe (zl2)
 have HLIT : Hid (zq2 Z) := lh hZ.symm
 have HZN : Hid (Z.size = 36) := lh (by rw [hZ]; rfl)
 obtain ⟨w0, hw0⟩ := nXe (w.alloc (.cells Z 46))
 have hb0 : Below w.heap.size w w0 := by rw [hw0]; exact bAx
 have HX0 := lh (show w0.heap[w.heap.size]? = some (.cells Z 46 (0, 0)) by rw [hw0]; exact AL _ _)
 obtain ⟨HBL0, HW0, HV, HK⟩ := l4h hb0 hw0 hv hk
 cases hr : WireS.read (bl s) with
 | none =>
   obtain ⟨E, hE⟩ := nXe (entZ)
   have hEn : E.size = 37 := by rw [hE]; rfl
   have hEo : E.all (·.oneCell') = true := by rw [hE]; exact Ba _ _ _ _ _ _
   have hR : ∀ w, Calls Tryz.prog 41 #[.string s] w (RB (.tuple #[.agg E, .int .i64 6]) w) := fun w  => by
    have := WireE.EQ w s hs
    rw [hr] at this
    rw [hE]
    exact this
   have hN : ∀ w, Calls Tryz.prog 43 #[.string s] w (RB (.tuple #[.agg F, .int .i64 y]) w) := fun w  => by
    have := WireF.EQ w s hs
    rw [show Cc (bl s) = says (bl s) by unfold says; rw [hr], hF] at this
    exact this
   clear hE
   have HES := lh (show (Tryz.prog.info? 81).map (·.size) = some E.size by rw [hEn]; kernel_rfl)
   have HEN := lh (show 37 = E.size from hEn.symm)
   obtain ⟨HEO, HR, HN⟩ := l3h hEo hR hN
   clear hR hN hEn hEo hFP hF hFo hZ hw0 hb0 hs hv hk hr
   go_enter func22, ntmps22
   go_wp2_with fail
   rw [HLIT.out, ← HW0.out]
   refine (HR.out w0).mono ?_
   rintro e' w1 ⟨rfl, hb⟩
   have HX1 := kpB hb HX0
   have HBL1 := tbB HBL0 hb
   clear hb
   go_wp2_with (first | (refine AC rfl _ _ _ rfl w1.heap.size E rfl rfl _ _ (AL _ _) HES.out (by rw [← HEN.out]; rfl) HEO.out ?_) | fail)
   intro u hu
   obtain ⟨w2, hw2⟩ := nXe (u)
   rw [← hw2] at hu ⊢
   clear hw2
   have hb : Below w1.heap.size w1 w2 := by rw [hu.out]; exact AQ bAx nR _
   have HE2 := lh (show w2.heap[w1.heap.size]? = some (.cells E 81 (0, 0)) by rw [hu.out]; exact AR (AL _ _))
   obtain ⟨BE, hBE⟩ := nXe (w1.heap.size)
   rw [← hBE] at HE2 ⊢
   have HX2 := kpB hb HX1
   have HBL2 := tbB HBL1 hb
   clear hb hu hBE
   go_wp2_with fail
   refine (HN.out w2).mono ?_
   rintro e' w3 ⟨rfl, hb⟩
   have HX3 := kpB hb HX2
   have HBL3 := tbB HBL2 hb
   clear hb
   go_wp2_with (first | (refine AC rfl _ _ _ rfl w.heap.size F rfl rfl _ _ HX3.out HFS.out (by rw [HZN.out]; exact HFN.out) HFO.out ?_) | fail)
   intro wf hwf
   go_wp2
   refine bodyPost_ret (v := .tuple #[.agg F, .int .i64 y]) (WireT.AU rfl _ _ w.heap.size 46 F (0, 0) _ rfl (by rw [hwf.out]; exact AR HX3.out) underlying46 rfl HFS.out rfl) rfl ⟨rfl, by rw [hwf.out]; exact AQ HBL3.out nR _⟩
 | some e =>
   obtain ⟨hRt, hpl, hsg, htx⟩ := EntB.IE hr
   obtain ⟨E, hE⟩ := nXe (entA (bsOf e.room) e.ep e.ix e.prev (bsOf e.ev) (bsOf e.sig))
   have hEP : EntP E (bsOf e.room) e.ep e.ix e.prev (bsOf e.ev) (bsOf e.sig) := ⟨hE, hpl⟩
   have hEn : E.size = 37 := hEP.size
   have hEo : E.all (·.oneCell') = true := by rw [hE]; exact Ba _ _ _ _ _ _
   have hent : Bp (bsOf e.room) e.ep e.ix e.prev (bsOf e.ev) (bsOf e.sig) = e := by
    unfold Bp
    rw [AV, AV, AV]
   have hchk : EntS.BD e = true := EntS.Bw.2 hRt
   have hsy : says (bl s) = some (ofE e) := by unfold says; rw [hr]
   rw [hsy] at hF
   have hy : y = 0 ∧ F = HdT.ofA (bsOf e.room) e.ep e.ix e := by
    have h1 : hdV (some (ofE e)) = .tuple #[.agg (HdT.ofA (bsOf e.room) e.ep e.ix e), .int .i64 0] := by
        unfold HdT.ofA
        rw [if_pos hchk]
        show Value.tuple #[.agg (hdA (bsOf e.room) e.ep e.ix (ShaS.sum (EntS.text e)) (bsOf [])), .int .i64 0] = _
        rw [show (EntX.sumE e).l = ShaS.sum (EntS.text e) by unfold EntX.sumE; first | rfl | (rw [if_pos hchk]; rfl)]
        rfl
    rw [h1] at hF
    injection hF with hF
    have h2 := congrArg (·[0]?) hF
    have h3 := congrArg (·[1]?) hF
    simp at h2 h3
    exact ⟨h3.symm, h2.symm⟩
   obtain ⟨rfl, hyF⟩ := hy
   have hroom := IdentS.DV hRt.room
   have hev := hRt.ev
   have hsig := hRt.sig
   have hR : ∀ w, Calls Tryz.prog 41 #[.string s] w (RB (.tuple #[.agg E, .int .i64 0]) w) := fun w  => by
    have := WireE.EQ w s hs
    rw [hr] at this
    rw [hE]
    exact this
   have hN : ∀ w, Am w → Au w → Calls Tryz.prog 42 #[.agg E] w (RB (.tuple #[.agg F, .int .i64 0]) w) := fun w hv hk => by
    have := HdU.MZ w E (bsOf e.room) e.ep e.ix e.prev (bsOf e.ev) (bsOf e.sig) hEP hv hk (by rw [AY]; omega) (by rw [AY]; unfold maxLen; omega) (by rw [AY]; unfold maxLen; omega)
    rw [hent, hchk, ← hyF] at this
    exact this
   clear hE hEP hent hchk hsy hyF hroom hev hsig hRt hpl hsg htx
   have HES := lh (show (Tryz.prog.info? 81).map (·.size) = some E.size by rw [hEn]; kernel_rfl)
   have HEN := lh (show 37 = E.size from hEn.symm)
   obtain ⟨HEO, HR, HN⟩ := l3h hEo hR hN
   clear hR hN hEn hEo hFP hF hFo hZ hw0 hb0 hs hv hk hr
   go_enter func22, ntmps22
   go_wp2_with fail
   rw [HLIT.out, ← HW0.out]
   refine (HR.out w0).mono ?_
   rintro e' w1 ⟨rfl, hb⟩
   have HX1 := kpB hb HX0
   have HBL1 := tbB HBL0 hb
   clear hb
   go_wp2_with (first | (refine AC rfl _ _ _ rfl w1.heap.size E rfl rfl _ _ (AL _ _) HES.out (by rw [← HEN.out]; rfl) HEO.out ?_) | fail)
   intro u hu
   obtain ⟨w2, hw2⟩ := nXe (u)
   rw [← hw2] at hu ⊢
   clear hw2
   have hb : Below w1.heap.size w1 w2 := by rw [hu.out]; exact AQ bAx nR _
   have HE2 := lh (show w2.heap[w1.heap.size]? = some (.cells E 81 (0, 0)) by rw [hu.out]; exact AR (AL _ _))
   obtain ⟨BE, hBE⟩ := nXe (w1.heap.size)
   rw [← hBE] at HE2 ⊢
   have HX2 := kpB hb HX1
   have HBL2 := tbB HBL1 hb
   clear hb hu hBE
   go_wp2_with (first | (refine wpList_load_row rfl _ _ rfl BE rfl _ E (0, 0) _ HE2.out underlying81 rfl HES.out ?_) | fail)
   refine (HN.out w2 (HV.out.below HBL2.out) (HK.out.below HBL2.out)).mono ?_
   rintro e' w3 ⟨rfl, hb⟩
   have HX3 := kpB hb HX2
   have HBL3 := tbB HBL2 hb
   clear hb
   go_wp2_with (first | (refine AC rfl _ _ _ rfl w.heap.size F rfl rfl _ _ HX3.out HFS.out (by rw [HZN.out]; exact HFN.out) HFO.out ?_) | fail)
   intro wf hwf
   go_wp2
   refine bodyPost_ret (v := .tuple #[.agg F, .int .i64 0]) (WireT.AU rfl _ _ w.heap.size 46 F (0, 0) _ rfl (by rw [hwf.out]; exact AR HX3.out) underlying46 rfl HFS.out rfl) rfl ⟨rfl, by rw [hwf.out]; exact AQ HBL3.out nR _⟩
end PfB
namespace RkI
open Go Go.RowKit Go.Shelf Steps RowsX Lift KeyS KeyA TreeA ShaA BookA BookB BookD BkR BkC BkF RkH
theorem Iq {L : List Gr'} {k : Nat} {g : Gr'} (h : L[k]? = some g) (f : Gr' → Bool) : (L.drop k).find? f = if f g = true then some g else (L.drop (k + 1)).find? f := by
 have hlt := (List.getElem?_eq_some_iff.1 h).1
 rw [List.drop_eq_getElem_cons hlt]
 rw [List.getElem?_eq_getElem hlt] at h
 rw [Option.some.inj h]
 cases hf : f g
 ·rw [List.find?_cons_of_neg (by simp [hf]), if_neg (by simp)]
 ·rw [List.find?_cons_of_pos (by simp [hf]), if_pos rfl]
theorem Kq (w : World) (v : Value) (L : List Gr') (sv at' : Int) (hv : Sl w v 36 L.length (L.flatMap Gr'.cs)) : Calls Tryz.prog 44 #[v, .int .i64 sv, .int .i64 at'] w (RB (.tuple #[.agg (findG L sv at').A, .int .i64 (IW L sv at')]) w) := by
 obtain ⟨a, cap, rfl, hcap, hm⟩ := hv.form
 have Hrow := lh (fun (k : Nat) (g : Gr') (hx : L[k]? = some g) => BU grF (by omega) hv hx)
 obtain ⟨Z, hZ⟩ := nXe (FY.A)
 have HLIT : Hid (zq3 Z) := lh (by rw [hZ]; unfold zq3; kernel_rfl)
 have HZN : Hid (Z.size = 36) := lh (by rw [hZ]; exact DL _)
 have HZS : Hid ((Tryz.prog.info? 65).map (·.size) = some Z.size) := lh (by rw [hZ]; exact DN _)
 have HZO : Hid (Z.all (·.oneCell') = true) := lh (by rw [hZ]; kernel_rfl)
 obtain ⟨w0, hw0⟩ := nXe (w.alloc (.cells Z 65))
 have hb0 : Below w.heap.size w w0 := by rw [hw0]; exact bAx
 have h3 : w0.heap[w.heap.size]? = some (.cells Z 65 (0, 0)) := by rw [hw0]; exact AL _ _
 have hv0 := Sl.below hv hb0
 obtain ⟨HC, HB0, HX0, HW0⟩ := l4h (JO w0 _ L hv0) hb0 h3 hw0
 obtain ⟨RW, hRW⟩ : ∃ x : Int, x = IW L sv at' := ⟨_, rfl⟩
 rw [← hRW]
 unfold findG
 obtain ⟨n, hn⟩ := nXe (L.length)
 rw [← hn] at HC hcap ⊢
 have Hn := lh hn
 cases hbk : C9 L
 ·skip
  rw [hbk] at HC
  rw [if_neg (by simp)] at HC
  have hRw : RW = 2 := by rw [hRW]; unfold IW; rw [hbk]; rfl
  subst hRw
  rw [if_neg (by simp), ← hZ]
  clear hRW hv0 h3 hw0 hb0 hv hcap hm hbk hZ hn
  go_enter func44, ntmps44
  go_wp2_with fail
  rw [HLIT.out, ← HW0.out]
  refine HC.out.mono ?_
  rintro e w1 ⟨rfl, hb⟩
  have HB1 := tbB HB0 hb
  have HX1 := kpB hb HX0
  clear hb
  go_wp2_with (first | (refine AC rfl _ _ _ rfl w.heap.size Z rfl (by rw [← HLIT.out]; rfl) _ _ HX1.out HZS.out rfl HZO.out ?_) | fail)
  intro wf hwf
  go_wp2
  refine bodyPost_ret (v := .tuple #[.agg Z, .int .i64 2]) (WireT.AU rfl _ _ w.heap.size 65 Z (0, 0) _ rfl (by rw [hwf.out]; exact AR HX1.out) underlying65 rfl HZS.out rfl) rfl ⟨rfl, by rw [hwf.out]; exact AQ HB1.out nR _⟩
 ·skip
  have hlen := IY hbk
  rw [← hn] at hlen
  rw [hbk] at HC
  rw [if_pos rfl] at HC
  rw [if_pos rfl]
  obtain ⟨RG, hRG⟩ := nXe ((L.find? (Bo · sv at')).getD FY)
  rw [← hRG]
  obtain ⟨HBK, HRG, HRW⟩ := l3h hbk hRG hRW
  obtain ⟨R, hR⟩ := nXe (RG.A)
  rw [← hR]
  have HR := lh hR
  clear hv0 h3 hw0 hb0 hv hm hbk hn hRG hRW hR
  go_enter func44, ntmps44
  go_wp2_with fail
  rw [HLIT.out, ← HW0.out]
  refine HC.out.mono ?_
  rintro e w1 ⟨rfl, hb⟩
  have HB1 := tbB HB0 hb
  have HX1 := kpB hb HX0
  clear hb
  have HZe := lh hZ
  clear hZ
  go_wp2
  go_loopw [16] (fun i wr => ∃ (k : Nat), i = .int .i64 k ∧ k ≤ n ∧ Hid ((L.drop k).find? (Bo · sv at') = L.find? (Bo · sv at')) ∧ wr.heap[w.heap.size]? = some (.cells Z 65 (0, 0)) ∧ Below w.heap.size w wr) (fun i _ => n - (intOf i).toNat)
  case atStart => exact ⟨0, rfl, by omega, lh rfl, HX1.out, HB1.out⟩
  case round =>
   obtain ⟨k, rfl, hk, hf, hx, hb⟩ := hrel
   have HF : Hid ((L.drop k).find? (Bo · sv at') = L.find? (Bo · sv at')) := hf
   obtain ⟨HXr, HBr⟩ := l2h hx hb
   clear hf hx hb HX1 HB1
   by_cases hlt : k < n
   ·skip
    obtain ⟨g, hg⟩ : ∃ g, L[k]? = some g := ⟨_, List.getElem?_eq_getElem (by rw [← Hn.out]; exact hlt)⟩
    obtain ⟨b, bo, rfl, hblt, hcc⟩ := Hrow.out k g hg
    have hstep := Iq hg (Bo · sv at')
    rw [HF.out] at hstep
    obtain ⟨C, hC⟩ := nXe (g.A)
    have HCS := lh (show (Tryz.prog.info? 65).map (·.size) = some C.size by rw [hC]; exact DN g)
    have HCN := lh (show Z.size = C.size by rw [hC, DL]; exact HZN.out)
    have HC6 := lh (show 36 = C.size by rw [hC]; exact (DL g).symm)
    have HCO := lh (show C.all (·.oneCell') = true by
     rw [hC, Array.all_eq_true_iff_forall_mem]
     intro u hu
     exact grF.one g u (by simpa [Gr'.A] using hu))
    have Hcc := lh (show ∀ (j' : Nat) (u : Value), C.toList[j']? = some u → wr.cell? ⟨b, bo + k * 36 + j', none⟩ = some u from fun j' u h => (HBr.out.cell (p := ⟨b, bo + k * 36 + j', none⟩) hblt).trans (hcc j' u (by rw [hC] at h; exact h)))
    have c0 := g.c0
    have c1 := g.c1
    have c2 := g.c2
    rw [← hC] at c0 c1 c2
    have hfg : Bo g sv at' = (g.sv == sv && (decide (g.fr ≤ at') && decide (at' ≤ g.to))) := rfl
    obtain ⟨sg, hsg⟩ := nXe (g.sv)
    obtain ⟨fg, hfr⟩ := nXe (g.fr)
    obtain ⟨tg, htg⟩ := nXe (g.to)
    rw [← hsg] at c0
    rw [← hfr] at c1
    rw [← htg] at c2
    rw [← hsg, ← hfr, ← htg] at hfg
    rw [hfg] at hstep
    obtain ⟨HST, HCe⟩ := l2h hstep hC
    clear hcc hC hblt hstep hsg hfr htg hfg
    go_wp2_with (first | (refine Ah rfl _ _ rfl b (bo + k * 36) rfl C Hcc.out underlying65 rfl HCS.out ?_) | (refine AC rfl _ _ _ rfl wr.heap.size C rfl rfl _ _ (AL _ _) HCS.out (by rw [← HC6.out]; rfl) HCO.out ?_) | fail)
    intro u1 hu1
    have hb : Below wr.heap.size wr u1 := by rw [hu1.out]; exact AQ bAx nR _
    have hyy : u1.heap[wr.heap.size]? = some (.cells C 65 (0, 0)) := by rw [hu1.out]; exact AR (AL _ _)
    clear hu1
    obtain ⟨w2, hww⟩ : ∃ w', w' = u1 := ⟨_, rfl⟩
    rw [← hww] at hb hyy ⊢
    clear hww
    have HB2 := tbB HBr hb
    have HX2 := kpB hb HXr
    have HY2 := lh hyy
    obtain ⟨BG, hBG⟩ := nXe (wr.heap.size)
    rw [← hBG] at HY2 ⊢
    clear hBG hb hyy
    have k0 : w2.cell? ⟨BG, 0, none⟩ = some (.int .i64 sg) := (AO HY2.out).trans c0
    have k1 : w2.cell? ⟨BG, 1, none⟩ = some (.int .i64 fg) := (AO HY2.out).trans c1
    have k2 : w2.cell? ⟨BG, 2, none⟩ = some (.int .i64 tg) := (AO HY2.out).trans c2
    obtain ⟨b0, h0⟩ : ∃ b, (sg == sv) = b := ⟨_, rfl⟩
    obtain ⟨b1, h1⟩ : ∃ b, decide (fg ≤ at') = b := ⟨_, rfl⟩
    obtain ⟨b2, h2⟩ : ∃ b, decide (at' ≤ tg) = b := ⟨_, rfl⟩
    rw [h0, h1, h2] at HST
    clear c0 c1 c2
    cases b0
    ·skip
     clear h1 h2
     have HN := lh (HST.out.trans (if_neg (by simp))).symm
     go_wp2
     go_roundw
     case rel => exact ⟨k + 1, by go_num, by omega, HN.out, HX2.out, HB2.out⟩
     case measure => simp [intOf]; omega
    cases b1
    ·skip
     clear h2
     have HN := lh (HST.out.trans (if_neg (by simp))).symm
     go_wp2
     go_roundw
     case rel => exact ⟨k + 1, by go_num, by omega, HN.out, HX2.out, HB2.out⟩
     case measure => simp [intOf]; omega
    cases b2
    ·skip
     skip
     have HN := lh (HST.out.trans (if_neg (by simp))).symm
     go_wp2
     go_roundw
     case rel => exact ⟨k + 1, by go_num, by omega, HN.out, HX2.out, HB2.out⟩
     case measure => simp [intOf]; omega
    have hf : L.find? (Bo · sv at') = some g := HST.out.trans (if_pos (by simp))
    have hRe : RG = g := by rw [HRG.out, hf]; rfl
    have hRw : RW = 0 := by rw [HRW.out]; unfold IW; rw [HBK.out, hf]; rfl
    have hRC : R = C := by rw [HR.out, hRe, HCe.out]
    subst hRw
    subst hRC
    clear hf hRe
    go_wp2_with (first | (refine wpList_load_row rfl _ _ rfl BG rfl _ R (0, 0) _ HY2.out underlying65 rfl HCS.out ?_) | (refine AC rfl _ _ _ rfl w.heap.size R rfl rfl _ _ HX2.out HCS.out HCN.out HCO.out ?_) | fail)
    intro wf hwf
    go_wp2
    refine bodyPost_ret (v := .tuple #[.agg R, .int .i64 0]) (WireT.AU rfl _ _ w.heap.size 65 R (0, 0) _ rfl (by rw [hwf.out]; exact AR HX2.out) underlying65 rfl HCS.out rfl) rfl ⟨rfl, by rw [hwf.out]; exact AQ HB2.out nR _⟩
   ·skip
    obtain rfl : k = n := by omega
    have hf : L.find? (Bo · sv at') = none := by
     rw [← HF.out, List.drop_of_length_le (by rw [← Hn.out]; exact Nat.le_refl _)]
     rfl
    have hRe : R = Z := by rw [HR.out, HRG.out, hf, HZe.out]; rfl
    have hRw : RW = 3 := by rw [HRW.out]; unfold IW; rw [HBK.out, hf]; rfl
    subst hRw
    subst hRe
    clear hf
    go_wp2_with (first | (refine AC rfl _ _ _ rfl w.heap.size R rfl (by rw [← HLIT.out]; rfl) _ _ HXr.out HZS.out rfl HZO.out ?_) | fail)
    intro wf hwf
    go_wp2
    refine bodyPost_ret (v := .tuple #[.agg R, .int .i64 3]) (WireT.AU rfl _ _ w.heap.size 65 R (0, 0) _ rfl (by rw [hwf.out]; exact AR HXr.out) underlying65 rfl HZS.out rfl) rfl ⟨rfl, by rw [hwf.out]; exact AQ HBr.out nR _⟩
end RkI
namespace RkA
open Go Go.RowKit Go.Shelf OctP OctG RowsX Lift ShaS KeyS ShaA ShaB Steps KeyA KeyB
open KeyD (conv_one)
attribute [-go_sem] Builtin.append_
theorem J6 (w : World) (s : ByteArray) (hs : s.size ≤ 140737488351232) : Calls Tryz.prog 121 #[.string s] w (RB (.string (bsOf (mid (bl s)))) w) := by
 obtain ⟨S, hS⟩ := nXe (sum (bl s))
 have hl : S.length = 32 := by rw [hS]; exact Bb _
 have hmid : mid (bl s) = S.take 16 := by rw [hS]; rfl
 rw [hmid]
 have hC := fun w => EntZ.GQ w s hs
 rw [← hS] at hC
 clear hS hmid
 obtain ⟨X, hX⟩ := nXe ((byV S).toArray)
 have hXn : X.size = 32 := by rw [hX]; simp [byV, hl]
 have HXS : Hid ((Tryz.prog.info? 44).map (·.size) = some X.size) := lh (by rw [hXn]; kernel_rfl)
 have HXN : Hid (32 = X.size) := lh hXn.symm
 have HXO : Hid (X.all (·.oneCell') = true) := lh (by rw [hX]; simp [byV, Value.oneCell'])
 have HX := lh hX
 rw [← hX] at hC
 obtain ⟨HC, HL⟩ := l2h hC hl
 clear hC hX hXn hl
 go_enter func121, ntmps121
 go_wp2_with fail
 refine (HC.out w).mono ?_
 rintro e w1 ⟨rfl, hb⟩
 have HB1 := lh hb
 clear hb
 go_wp2_with (first | (refine AC rfl _ _ _ rfl w1.heap.size X rfl rfl _ _ (AL _ _) HXS.out (by rw [← HXN.out]; rfl) HXO.out ?_) | fail)
 intro u1 hu1
 have hb : Below w1.heap.size w1 u1 := by rw [hu1.out]; exact AQ bAx nR _
 have hy : u1.heap[w1.heap.size]? = some (.cells X 44 (0, 0)) := by rw [hu1.out]; exact AR (AL _ _)
 clear hu1
 obtain ⟨w2, hww⟩ : ∃ w', w' = u1 := ⟨_, rfl⟩
 rw [← hww] at hb hy ⊢
 clear hww
 have HB2 := tbB HB1 hb
 have hsl : Sl w2 (.slice (some ⟨w1.heap.size, 0, none⟩) 16 32) 1 (S.take 16).length (byV (S.take 16)) := by
  have h32 := EventB.EW (n := 32) hy HXN.out (by simp [maxLen])
  rw [HX.out] at h32
  have h16 := Sl.take h32 (show 16 ≤ 32 by omega)
  have e : (S.take 16).length = 16 := by rw [List.length_take, HL.out]; rfl
  rw [e]
  simpa [byV, List.map_take] using h16
 have hcv := BX w2 100 9 5 underlying100 underlying5 underlying9 _ _ hsl
 have Hy := lh hy
 clear hb hsl
 obtain ⟨cx, fx⟩ := AA Hy.out
 clear hy
 go_wp2
 go_ret
 exact ⟨rfl, HB2.out⟩
theorem LJ (w : World) (s : ByteArray) (n : Nat) (hs : s.size = 16) (hn : n ≤ 3) : Calls Tryz.prog 102 #[.string s, .int .i64 n] w (RB (.string (bsOf (on n (bl s)))) w) := by
 have hC := fun w s hs => J6 w s hs
 have HC := lh hC
 clear hC
 go_enter func102, ntmps102
 go_wp2
 go_loopw [0, 5] (fun x i wr => ∃ (k : Nat) (X : ByteArray), x = .string X ∧ i = .int .i64 k ∧ k ≤ n ∧ X.size = 16 ∧ Hid (on (n - k) (bl X) = on n (bl s)) ∧ Below w.heap.size w wr)
  (fun _ i _ => n - (intOf i).toNat)
 case atStart => exact ⟨0, s, rfl, rfl, by omega, hs, lh rfl, Below.refl _ _⟩
 case round =>
  obtain ⟨k, X, rfl, rfl, hk, hX, hon, hb⟩ := hrel
  have Hb := lh hb
  clear hb
  by_cases hlt : k < n
  ·skip
   obtain ⟨Y, hY⟩ := nXe (bsOf [2] ++ X)
   have hYb : bl Y = 2 :: bl X := by rw [hY]; simp [bl, bsOf]
   have hYs : Y.size = 17 := by rw [← AP, hYb, List.length_cons, AP, hX]
   have hcat : (⟨#[2]⟩ ++ X : ByteArray) = Y := hY.symm
   have hlen : ¬ 9223372036854775807 < 1 + X.size := by omega
   obtain ⟨HYb, HYs⟩ := l2h hYb hYs
   clear hY hYb hYs
   go_wp2_with fail
   refine (HC.out wr Y (by have := HYs.out; omega)).mono ?_
   rintro e w1 ⟨rfl, hb⟩
   have Hb1 := tbB Hb hb
   clear hb
   go_wp2
   go_roundw
   case rel => exact ⟨k + 1, _, rfl, by go_num, by omega, by rw [AY, Cx], lh (by rw [← hon.out, AV, HYb.out, show n - k = (n - (k + 1)) + 1 by omega]; rfl), Hb1.out⟩
   case measure => simp [intOf]; omega
  ·obtain rfl : k = n := by omega
   go_wp2
   go_ret
   refine ⟨?_, Hb.out⟩
   have h := hon.out
   rw [Nat.sub_self] at h
   rw [← h]
   show Ending.returned (.string X) = .returned (.string (bsOf (bl X)))
   rw [CG]
theorem J2 (w : World) (s : ByteArray) (hs : s.size ≤ 140737488351232) : Calls Tryz.prog 101 #[.string s] w fun e w' => ∃ v, e = .returned v ∧ AccN w w' v (digits (bl s)) := by
 have hM := fun w => J6 w s hs
 unfold digits
 obtain ⟨D, hD⟩ := nXe (digM (bl s))
 rw [← hD]
 obtain ⟨Qf, hQf⟩ := nXe (De D)
 obtain ⟨DG, hDG⟩ := nXe (CR Qf)
 rw [← hQf, ← hDG]
 obtain ⟨HQf, Mh⟩ := l2h hQf hDG
 clear hQf hDG
 obtain ⟨M, hMe⟩ := nXe (mid (bl s))
 have hMl : M.length = 16 := by rw [hMe]; exact Cx _
 have hDM : M.flatMap (fun y => CR y.toNat) = D := by rw [hD, hMe]; rfl
 have hDl : D.length = 64 := by rw [hD]; exact F3 _
 have hD3 : ∀ d ∈ D, d ≤ 3 := by rw [hD]; exact digM_le _
 rw [← hMe] at hM
 obtain ⟨B, hB⟩ := nXe (bsOf M)
 have hBs : B.size = 16 := by rw [hB, AY, hMl]
 have hBb : bl B = M := by rw [hB, AV]
 rw [← hB] at hM
 obtain ⟨HM, HDM, HDl, HD3, HBb, HMl, HA0⟩ := l7h hM hDM hDl hD3 hBb hMl (AccR.nil (f := inN) (e := 3) (size := 1) w)
 clear hM hD hMe hDM hDl hD3 hBb hMl hB
 go_enter func101, ntmps101
 go_wp2_with fail
 refine (HM.out w).mono ?_
 rintro e w1 ⟨rfl, hb⟩
 have HA1 := lh (HA0.out.below hb)
 clear hb
 go_wp2
 go_loopw [4, 5, 6] (fun x y i wr => ∃ (k q : Nat) (v : Value), v = x ∧ y = .int .i64 q ∧ i = .int .i64 k ∧ k ≤ 16 ∧ q ≤ 192 ∧ Hid (q = De ((M.take k).flatMap fun y => CR y.toNat)) ∧ AccN w wr v ((M.take k).flatMap fun y => CR y.toNat))
  (fun _ _ i _ => 16 - (intOf i).toNat)
 case atStart => exact ⟨0, 0, _, rfl, rfl, rfl, by omega, by omega, lh rfl, HA1.out⟩
 case round =>
  obtain ⟨k, q, v, rfl, rfl, rfl, hk, hq, hQ, hA⟩ := hrel
  have HA := lh hA
  have HQ : Hid (q = De ((M.take k).flatMap fun y => CR y.toNat)) := hQ
  have hlen : ((M.take k).flatMap fun y => CR y.toNat).length = 4 * k := by rw [len_flat, List.length_take, HMl.out, Nat.min_eq_left hk]
  have HLen := lh hlen
  have hqk : q ≤ 12 * k := by have := lackOf_le ((M.take k).flatMap fun y => CR y.toNat); rw [hlen, ← HQ.out] at this; omega
  clear hA hlen HA1 hQ
  by_cases hlt : k < 16
  ·skip
   have hkB : k < B.size := by omega
   obtain ⟨b, hb⟩ : ∃ b, B[k] = b := ⟨_, rfl⟩
   have hMk : M[k]? = some b := by
        rw [← HBb.out, List.getElem?_eq_getElem (by rw [AP]; exact hkB)]
        rw [← hb]
        rfl
   have hb8 := b.toNat_lt
   have HMk := lh hMk
   have hbn : (B[k].toNat) = b.toNat := by rw [hb]
   clear hMk hb
   obtain ⟨n0, hn0⟩ := nXe (b.toNat)
   obtain ⟨n1, hn1⟩ := nXe (n0 / 4)
   obtain ⟨n2, hn2⟩ := nXe (n1 / 4)
   obtain ⟨n3, hn3⟩ := nXe (n2 / 4)
   obtain ⟨d0, hd0⟩ := nXe (n0 % 4)
   obtain ⟨d1, hd1⟩ := nXe (n1 % 4)
   obtain ⟨d2, hd2⟩ := nXe (n2 % 4)
   obtain ⟨d3, hd3⟩ := nXe (n3 % 4)
   have hdg : CR (b.toNat) = [d0, d1, d2, d3] := by rw [← hn0]; unfold CR; rw [hd0, hd1, hd2, hd3, hn3, hn2, hn1, Nat.div_div_eq_div_mul, Nat.div_div_eq_div_mul]
   have HDG := lh hdg
   have m0 : ((n0 : Nat) : Int).tmod 4 = ((d0 : Nat) : Int) := by rw [hd0]; rfl
   have m1 : ((n1 : Nat) : Int).tmod 4 = ((d1 : Nat) : Int) := by rw [hd1]; rfl
   have m2 : ((n2 : Nat) : Int).tmod 4 = ((d2 : Nat) : Int) := by rw [hd2]; rfl
   have m3 : ((n3 : Nat) : Int).tmod 4 = ((d3 : Nat) : Int) := by rw [hd3]; rfl
   have t0 : ((n0 : Nat) : Int).tdiv 4 = ((n1 : Nat) : Int) := by rw [hn1]; rfl
   have t1 : ((n1 : Nat) : Int).tdiv 4 = ((n2 : Nat) : Int) := by rw [hn2]; rfl
   have t2 : ((n2 : Nat) : Int).tdiv 4 = ((n3 : Nat) : Int) := by rw [hn3]; rfl
   obtain ⟨n4, hn4⟩ := nXe (n3 / 4)
   have t3 : ((n3 : Nat) : Int).tdiv 4 = ((n4 : Nat) : Int) := by rw [hn4]; rfl
   have b0 : d0 ≤ 3 := by omega
   have b1 : d1 ≤ 3 := by omega
   have b2 : d2 ≤ 3 := by omega
   have b3 : d3 ≤ 3 := by omega
   have e0 : n0 ≤ 255 := by omega
   have e1 : n1 ≤ 255 := by omega
   have e2 : n2 ≤ 255 := by omega
   have e3 : n3 ≤ 255 := by omega
   have e4 : n4 ≤ 255 := by omega
   rw [← hn0] at hbn
   have x0 : wrap64 ((n0 : Nat) : Int) = (n0 : Int) := by unfold wrap64; omega
   clear hn0 hn1 hn2 hn3 hn4 hd0 hd1 hd2 hd3 hdg hb8
   go_wp2_with fail
   refine wp_loop_rounds 5 ?_
   rw [rounds_succ]
   go_wp2_with (at_builtin; go_must (refine Bd Dp inF HA.out d0 rfl _ _ rfl rfl #[.int .i64 (d0 : Int)] rfl _ rfl (by first | rfl | simp) ?hl ?hb ?go))
   case hl => simp only [List.length_append, List.length_cons, List.length_nil, HLen.out]; unfold maxLen; omega
   case hb => simp only [List.length_append, List.length_cons, List.length_nil, HLen.out]; omega
   case go =>
   intro v2 w2 A
   have HB1 := lh A
   clear A
   go_wp2_with fail
   rw [rounds_succ]
   go_wp2_with (at_builtin; go_must (refine Bd Dp inF HB1.out d1 rfl _ _ rfl rfl #[.int .i64 (d1 : Int)] rfl _ rfl (by first | rfl | simp) ?hl ?hb ?go))
   case hl => simp only [List.length_append, List.length_cons, List.length_nil, HLen.out]; unfold maxLen; omega
   case hb => simp only [List.length_append, List.length_cons, List.length_nil, HLen.out]; omega
   case go =>
   intro v3 w3 A
   have HB2 := lh A
   clear A
   go_wp2_with fail
   rw [rounds_succ]
   go_wp2_with (at_builtin; go_must (refine Bd Dp inF HB2.out d2 rfl _ _ rfl rfl #[.int .i64 (d2 : Int)] rfl _ rfl (by first | rfl | simp) ?hl ?hb ?go))
   case hl => simp only [List.length_append, List.length_cons, List.length_nil, HLen.out]; unfold maxLen; omega
   case hb => simp only [List.length_append, List.length_cons, List.length_nil, HLen.out]; omega
   case go =>
   intro v4 w4 A
   have HB3 := lh A
   clear A
   go_wp2_with fail
   rw [rounds_succ]
   go_wp2_with (at_builtin; go_must (refine Bd Dp inF HB3.out d3 rfl _ _ rfl rfl #[.int .i64 (d3 : Int)] rfl _ rfl (by first | rfl | simp) ?hl ?hb ?go))
   case hl => simp only [List.length_append, List.length_cons, List.length_nil, HLen.out]; unfold maxLen; omega
   case hb => simp only [List.length_append, List.length_cons, List.length_nil, HLen.out]; omega
   case go =>
   intro v5 w5 A
   have HB4 := lh A
   clear A
   go_wp2_with fail
   rw [rounds_succ]
   go_wp2
   go_roundw
   case rel =>
        refine ⟨k + 1, q + (3 - d0) + (3 - d1) + (3 - d2) + (3 - d3), _, rfl, by go_num, by go_num, by omega, by omega, lh ?_, ?_⟩
        ·rw [Eb HMk.out, HDG.out, HQ.out]
         simp [De]
         omega
        ·rw [Eb HMk.out, HDG.out]
         have h := HB4.out
         exact h
   case measure => simp [intOf]; omega
  ·skip
   obtain rfl : k = 16 := by omega
   have hA := HA.out
   have hQ := HQ.out
   rw [List.take_of_length_le (by rw [HMl.out]; omega), HDM.out] at hA hQ
   obtain ⟨HA1, HQ1⟩ := l2h hA hQ
   clear hA hQ HA HQ HLen
   obtain ⟨n0, hn0⟩ := nXe (q)
   obtain ⟨n1, hn1⟩ := nXe (n0 / 4)
   obtain ⟨n2, hn2⟩ := nXe (n1 / 4)
   obtain ⟨n3, hn3⟩ := nXe (n2 / 4)
   obtain ⟨d0, hd0⟩ := nXe (n0 % 4)
   obtain ⟨d1, hd1⟩ := nXe (n1 % 4)
   obtain ⟨d2, hd2⟩ := nXe (n2 % 4)
   obtain ⟨d3, hd3⟩ := nXe (n3 % 4)
   have hdg : CR (q) = [d0, d1, d2, d3] := by rw [← hn0]; unfold CR; rw [hd0, hd1, hd2, hd3, hn3, hn2, hn1, Nat.div_div_eq_div_mul, Nat.div_div_eq_div_mul]
   have HDG := lh hdg
   have m0 : ((n0 : Nat) : Int).tmod 4 = ((d0 : Nat) : Int) := by rw [hd0]; rfl
   have m1 : ((n1 : Nat) : Int).tmod 4 = ((d1 : Nat) : Int) := by rw [hd1]; rfl
   have m2 : ((n2 : Nat) : Int).tmod 4 = ((d2 : Nat) : Int) := by rw [hd2]; rfl
   have m3 : ((n3 : Nat) : Int).tmod 4 = ((d3 : Nat) : Int) := by rw [hd3]; rfl
   have t0 : ((n0 : Nat) : Int).tdiv 4 = ((n1 : Nat) : Int) := by rw [hn1]; rfl
   have t1 : ((n1 : Nat) : Int).tdiv 4 = ((n2 : Nat) : Int) := by rw [hn2]; rfl
   have t2 : ((n2 : Nat) : Int).tdiv 4 = ((n3 : Nat) : Int) := by rw [hn3]; rfl
   obtain ⟨n4, hn4⟩ := nXe (n3 / 4)
   have t3 : ((n3 : Nat) : Int).tdiv 4 = ((n4 : Nat) : Int) := by rw [hn4]; rfl
   have b0 : d0 ≤ 3 := by omega
   have b1 : d1 ≤ 3 := by omega
   have b2 : d2 ≤ 3 := by omega
   have b3 : d3 ≤ 3 := by omega
   have e0 : n0 ≤ 255 := by omega
   have e1 : n1 ≤ 255 := by omega
   have e2 : n2 ≤ 255 := by omega
   have e3 : n3 ≤ 255 := by omega
   have e4 : n4 ≤ 255 := by omega
   subst hn0
   clear hn1 hn2 hn3 hn4 hd0 hd1 hd2 hd3 hdg
   go_wp2_with fail
   refine wp_loop_rounds 5 ?_
   rw [rounds_succ]
   go_wp2_with (at_builtin; go_must (refine Bd Dp inF HA1.out d0 rfl _ _ rfl rfl #[.int .i64 (d0 : Int)] rfl _ rfl (by first | rfl | simp) ?hl ?hb ?go))
   case hl => simp only [List.length_append, List.length_cons, List.length_nil, HDl.out]; unfold maxLen; omega
   case hb => simp only [List.length_append, List.length_cons, List.length_nil, HDl.out]; omega
   case go =>
   intro v2 w2 A
   have HB1 := lh A
   clear A
   go_wp2_with fail
   rw [rounds_succ]
   go_wp2_with (at_builtin; go_must (refine Bd Dp inF HB1.out d1 rfl _ _ rfl rfl #[.int .i64 (d1 : Int)] rfl _ rfl (by first | rfl | simp) ?hl ?hb ?go))
   case hl => simp only [List.length_append, List.length_cons, List.length_nil, HDl.out]; unfold maxLen; omega
   case hb => simp only [List.length_append, List.length_cons, List.length_nil, HDl.out]; omega
   case go =>
   intro v3 w3 A
   have HB2 := lh A
   clear A
   go_wp2_with fail
   rw [rounds_succ]
   go_wp2_with (at_builtin; go_must (refine Bd Dp inF HB2.out d2 rfl _ _ rfl rfl #[.int .i64 (d2 : Int)] rfl _ rfl (by first | rfl | simp) ?hl ?hb ?go))
   case hl => simp only [List.length_append, List.length_cons, List.length_nil, HDl.out]; unfold maxLen; omega
   case hb => simp only [List.length_append, List.length_cons, List.length_nil, HDl.out]; omega
   case go =>
   intro v4 w4 A
   have HB3 := lh A
   clear A
   go_wp2_with fail
   rw [rounds_succ]
   go_wp2_with (at_builtin; go_must (refine Bd Dp inF HB3.out d3 rfl _ _ rfl rfl #[.int .i64 (d3 : Int)] rfl _ rfl (by first | rfl | simp) ?hl ?hb ?go))
   case hl => simp only [List.length_append, List.length_cons, List.length_nil, HDl.out]; unfold maxLen; omega
   case hb => simp only [List.length_append, List.length_cons, List.length_nil, HDl.out]; omega
   case go =>
   intro v5 w5 A
   have HB4 := lh A
   clear A
   go_wp2_with fail
   rw [rounds_succ]
   go_wp2
   go_ret
   refine ⟨_, rfl, ?_⟩
   have h := HB4.out
   rw [Mh.out, HQf.out, ← HQ1.out, HDG.out]
   exact h
end RkA
namespace RkB
open Go Go.RowKit Go.Shelf OctP OctG RowsX Lift ShaS KeyS ShaA ShaB Steps KeyA KeyB TreeA WireT RkA
attribute [-go_sem] Builtin.append_
theorem LZ (X Y : ByteArray) : bl (X ++ Y) = bl X ++ bl Y := KR X Y
theorem Jj (w : World) (text sig : ByteArray) (ht : text.size ≤ 140737488351232) (hs : sig.size = 1088) : Calls Tryz.prog 73 #[.string text, .string sig] w (RB (.tuple #[.agg (byV (recover (bl text) (bl sig))).toArray, .int .i64 0]) w) := by
 have hD := fun w => J2 w text (by omega)
 obtain ⟨D, hDe⟩ := nXe (digits (bl text))
 rw [← hDe] at hD
 have hDl : D.length = 68 := by rw [hDe]; exact digits_length _
 have hD3 : ∀ d ∈ D, d ≤ 3 := by rw [hDe]; exact GM _
 obtain ⟨HD, HDl, HD3, HDe⟩ := l4h hD hDl hD3 hDe
 clear hD hDl hD3 hDe
 obtain ⟨Z, hZ⟩ := nXe (CQ.A)
 have HLIT : Hid (zq0 Z) := lh (by rw [hZ]; unfold zq0; kernel_rfl)
 have HZN : Hid (Z.size = 32) := lh (by rw [hZ]; exact H32.size _)
 have HZS : Hid ((Tryz.prog.info? 44).map (·.size) = some Z.size) := lh (by rw [hZ]; exact H32.info _)
 have HZO : Hid (Z.all (·.oneCell') = true) := lh (by rw [hZ]; exact H32.one _)
 obtain ⟨w0, hw0⟩ := nXe (w.alloc (.cells Z 44))
 have hb0 : Below w.heap.size w w0 := by rw [hw0]; exact (Below.refl _ w).alloc nR _
 have HX0 := lh (show w0.heap[w.heap.size]? = some (.cells Z 44 (0, 0)) by rw [hw0]; exact AL _ _)
 obtain ⟨HB0, HW0⟩ := l2h hb0 hw0
 obtain ⟨RES, hRES⟩ := nXe (recover (bl text) (bl sig))
 have hRl : RES.length = 32 := by rw [hRES]; exact Bb _
 have HRES := lh hRES
 rw [← hRES]
 obtain ⟨E, hE⟩ : ∃ E : Array Value, E = (byV RES).toArray := ⟨_, rfl⟩
 have hEn : E.size = 32 := by rw [hE]; simp [AZ, hRl]
 have HES := lh (show (Tryz.prog.info? 44).map (·.size) = some E.size by rw [hEn]; kernel_rfl)
 have HEN := lh (show 32 = E.size by rw [hEn])
 have HEO := lh (show E.all (·.oneCell') = true by rw [hE]; simp [byV, Value.oneCell'])
 rw [← hE]
 have HEe := lh hE
 clear hw0 hb0 hZ hRES hE hEn
 go_enter func73, ntmps73
 go_wp2_with fail
 rw [HLIT.out, ← HW0.out]
 refine (HD.out w0).mono ?_
 rintro e w1 ⟨dv, rfl, hdv⟩
 have hsl : SlN w1 dv D := hdv.sl
 obtain ⟨db, do_, dcap, rfl, MR, hdc⟩ := hsl.cells (by rw [HDl.out]; omega)
 have hb := hdv.bel
 rw [HDl.out]
 have HDC := lh hdc
 clear hdv hsl hdc
 have HX1 := kpB hb HX0
 have HB1 := tbB HB0 hb
 clear hb
 go_wp2
 go_loopw [6, 16] (fun x i wr => ∃ (k : Nat) (X : ByteArray), x = .string X ∧ i = .int .i64 k ∧ k ≤ 68 ∧ X.size = 16 * k + 1 ∧ Hid (bl X = recT (bl sig) D k) ∧ Below w1.heap.size w1 wr)
  (fun _ i _ => 68 - (intOf i).toNat)
 case atStart => exact ⟨0, _, rfl, rfl, by omega, rfl, lh rfl, Below.refl _ _⟩
 case round =>
  obtain ⟨k, X, rfl, rfl, hk, hXs, hX, hb⟩ := hrel
  have HBq := lh hb
  have HXl : Hid (bl X = recT (bl sig) D k) := hX
  clear hb hX
  by_cases hlt : k < 68
  ·skip
   obtain ⟨d, hd⟩ : ∃ d, D[k]? = some d := ⟨_, List.getElem?_eq_getElem (by rw [HDl.out]; exact hlt)⟩
   have hd3 := HD3.out d (List.mem_of_getElem? hd)
   have hcd : wr.cell? ⟨db, do_ + k, none⟩ = some (.int .i64 (d : Int)) := (HBq.out.cell (p := ⟨db, do_ + k, none⟩) MR).trans (HDC.out k d hd)
   have hgd : D.getD k 0 = d := by rw [List.getD_eq_getElem?_getD, hd]; rfl
   obtain ⟨C, hC⟩ := nXe (sig.extract (16 * k) (16 * (k + 1)))
   have hCs : C.size = 16 := by rw [hC, ByteArray.size_extract]; omega
   have hCb : bl C = ((bl sig).drop (16 * k)).take 16 := by rw [hC, Aj, show 16 * (k + 1) - 16 * k = 16 by omega]
   obtain ⟨m, hm⟩ := nXe (3 - d)
   have hmi : (3 : Int) - (d : Int) = (m : Int) := by omega
   have hm3 : m ≤ 3 := by omega
   obtain ⟨Y, hY⟩ := nXe (bsOf (on m (bl C)))
   have hYs : Y.size = 16 := by rw [hY, AY]; exact DD (by rw [AP, hCs]) _
   have hYb : bl Y = on (3 - D.getD k 0) (((bl sig).drop (16 * k)).take 16) := by rw [hY, AV, hCb, hgd, hm]
   have hO := fun w => LJ w C m hCs hm3
   rw [← hY] at hO
   obtain ⟨HO, HYb⟩ := l2h hO hYb
   have hlen : ¬ 9223372036854775807 < X.size + Y.size := by omega
   have hXn : X.size ≤ 2000 := by omega
   have HXs := lh hXs
   clear hXs
   have HC := lh hC
   clear hO hC hCb hY hYb hd hgd hm
   go_wp2_with fail
   rw [← HC.out]
   refine (HO.out wr).mono ?_
   rintro e w2 ⟨rfl, hb⟩
   have HB2 := tbB HBq hb
   clear hb hcd
   go_wp2
   go_roundw
   case rel => exact ⟨k + 1, _, rfl, by go_num, by omega, by rw [ByteArray.size_append, HXs.out, hYs]; omega, lh (by rw [LZ, HXl.out, HYb.out, recT_succ]), HB2.out⟩
   case measure => simp [intOf]; omega
  ·skip
   obtain rfl : k = 68 := by omega
   have HXF := lh (show ShaS.sum (bl X) = RES by rw [HXl.out, HRES.out, HDe.out]; rfl)
   obtain ⟨HBr, HXr⟩ := l2h (HB1.out.trans (HBq.out.mono HB1.out.size)) ((HBq.out.block _ (AJ HX1.out)).trans HX1.out)
   go_wp2_with fail
   refine (EntZ.GQ _ X (by omega)).mono ?_
   rintro e w9 ⟨rfl, hb⟩
   rw [HXF.out, ← HEe.out]
   have HC1 := tbB HBr hb
   have HY1 := kpB hb HXr
   clear hb
   go_wp2_with (first | (refine AC rfl _ _ _ rfl w.heap.size E rfl rfl _ _ HY1.out HES.out (by rw [HZN.out]; exact HEN.out) HEO.out ?_) | fail)
   intro wf hwf
   go_wp2
   refine bodyPost_ret (v := .tuple #[.agg E, .int .i64 0]) (WireT.AU rfl _ _ w.heap.size 44 E (0, 0) _ rfl (by rw [hwf.out]; exact AR HY1.out) underlying44 rfl HES.out rfl) rfl ⟨rfl, by rw [hwf.out]; exact AQ HC1.out nR _⟩
end RkB
end Go.Proofs.YtceiajepcokacaaGreatDoor
