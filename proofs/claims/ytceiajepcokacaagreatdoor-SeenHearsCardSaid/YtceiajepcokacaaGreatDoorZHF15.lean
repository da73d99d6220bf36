/-
  WHAT IS PROVED: contracts and plain laws. Condition: each names its own.
-/
import Derived.Test.YtceiajepcokacaaGreatDoorS0
import Derived.Test.YtceiajepcokacaaGreatDoorZHF13
import Derived.Test.YtceiajepcokacaaGreatDoorZHF14
import Derived.DeepKeys4
import Derived.Maps.Keyed
import Derived.Maps.OwnSet
set_option linter.unusedVariables false
set_option linter.unusedSimpArgs false
set_option maxRecDepth 100000
set_option maxHeartbeats 4000000
namespace Go.Proofs.YtceiajepcokacaaGreatDoor
open Go.Proofs.Tryz hiding parts
namespace HdT
open Go Go.RowKit Go.Shelf OctetS IdentS EntS OctP OctQ OctG IdentP EntP EventC ShaA Steps KeyA KeyS KeyK TreeA WireT
theorem YM {p : Array Value} {r : ByteArray} {ep ix : Int} {sm : List UInt8} {s : ByteArray} (h : HdP p r ep ix sm s) {W : World} {B : Nat} {t : TypeId} (hb : W.heap[B]? = some (.cells p t (0, 0))) : Sl W (.slice (some ⟨B, 3, none⟩) 32 32) 1 sm.length (byV sm) := by
 rw [h.len]
 refine ⟨by rw [AZ, h.len], .inr ⟨_, 32, rfl, Nat.le_refl _, by unfold maxLen; omega, fun j u hu => ?_⟩⟩
 rw [Addr.add_mid, AO hb]
 exact h.cp j u hu
theorem Vh (w : World) (p : Array Value) (r : ByteArray) (ep ix : Int) (pv : List UInt8) (s : ByteArray) (hp : HdP p r ep ix pv s) (hv : Am w) (hr : r.size ≤ 140737488351232) (hs : s.size ≤ maxLen) :
 Calls Tryz.prog 35 #[.agg p] w (RB (.int .i64 (CW (CS (hdOf r ep ix pv s)))) w) := WireC.RP w p r ep ix pv s hp hv hr hs
theorem XY {e : WireS.Hd} (h : HdS.Right e) (hp : e.sum.length = 32) : (HdS.text e).length ≤ 100000 := by
 obtain ⟨h1, h2⟩ := Cq.1 (h.fits hp)
 have h3 := EntX.Nw _ h2
 have h4 : (HdS.parts e).length = 5 := rfl
 have h5 := OctetS.CV (n := 5) (by omega)
 unfold HdS.text OctetS.list
 rw [List.length_append, h4]
 rw [h4] at h3
 omega
theorem Qs (w : World) (p : Array Value) (r : ByteArray) (ep ix : Int) (pv : List UInt8) (s : ByteArray) (hp : HdP p r ep ix pv s) (hv : Am w) (hr : r.size ≤ 140737488351232) (hs : s.size ≤ maxLen) :
 Calls Tryz.prog 18 #[.agg p] w (RB (.tuple #[.string (bsOf (HdS.textOf (hdOf r ep ix pv s))), .int .i64 (CW (CS (hdOf r ep ix pv s)))]) w) := by
 have hC := fun w hv => Vh w p r ep ix pv s hp hv hr hs
 have p0 := hp.c0
 have p1 := hp.c1
 have p2 := hp.c2
 have hps := hp.size
 have hpi : (Tryz.prog.info? 46).map (·.size) = some 36 := by kernel_rfl
 rw [← hps] at hpi
 have HI := lh hpi
 clear hpi hps
 obtain ⟨w0, hw0⟩ := nXe (w.alloc (.cells p 46))
 have hb0 : Below w.heap.size w w0 := by rw [hw0]; exact ((Below.refl _ w).alloc nR _)
 have hx0 : w0.heap[w.heap.size]? = some (.cells p 46 (0, 0)) := by rw [hw0]; exact AL _ _
 obtain ⟨HBL0, HW0⟩ := l2h hb0 hw0
 have lx0 := AJ hx0
 obtain ⟨cx0, fx0⟩ := AA hx0
 have HV0 := lh (hv.below hb0)
 unfold HdS.textOf
 unfold maxLen at hs
 obtain ⟨HP, Hx0⟩ := l2h hp hx0
 cases hchk : CS (hdOf r ep ix pv s)
 ·skip
  rw [hchk] at hC
  have HC := lh hC
  clear hC hchk hr hs hp hb0 hv hw0
  go_enter func18, ntmps18
  go_wp2_with (first | (rw [← HW0.out]; refine wpList_load_row rfl _ _ rfl w.heap.size rfl _ p (0, 0) _ Hx0.out underlying46 rfl HI.out ?_) | fail)
  refine (HC.out w0 HV0.out).mono ?_
  rintro e' w1 ⟨rfl, hb⟩
  have HBL1 := tbB HBL0 hb
  have hx1 := (hb.block _ lx0).trans hx0
  have lx1 := AJ hx1
  obtain ⟨cx1, fx1⟩ := AA hx1
  have HV1 := lh (HV0.out.below hb)
  clear hb hx0 cx0 fx0
  unfold CW
  go_wp2
  go_ret2
  exact ⟨rfl, HBL1.out⟩
 ·skip
  have hR := HdS.Bw.1 hchk
  have h0 := hR.ep0
  have h1 := hR.ep1
  have h2 := hR.ix0
  have h3 := hR.ix1
  have hfit := hR.fits hp.len
  simp only [hdOf] at h0 h1 h2 h3
  obtain ⟨m, rfl⟩ : ∃ m : Nat, ep = m := ⟨ep.toNat, by omega⟩
  obtain ⟨j, rfl⟩ : ∃ j : Nat, ix = j := ⟨ix.toNat, by omega⟩
  have hparts : HdS.parts (hdOf r m j pv s) = [bsOf WireS.CL, r, bsOf (num m), bsOf (num j), bsOf pv].map bl := by
   simp [HdS.parts, hdOf, AV]
  have hfin : HdS.text (hdOf r m j pv s) = OctetS.list ([bsOf WireS.CL, r, bsOf (num m), bsOf (num j), bsOf pv].map bl) := by
   unfold HdS.text
   rw [hparts]
  rw [if_pos rfl, hfin]
  rw [hparts] at hfit
  have hL := fun w v h => List_ok w v [bsOf WireS.CL, r, bsOf (num m), bsOf (num j), bsOf pv] h hfit
  rw [hchk] at hC
  obtain ⟨out, hout⟩ := nXe (bsOf (OctetS.list ([bsOf WireS.CL, r, bsOf (num m), bsOf (num j), bsOf pv].map bl)))
  obtain ⟨n1, hn1⟩ := nXe (bsOf (num m))
  obtain ⟨n2, hn2⟩ := nXe (bsOf (num j))
  obtain ⟨q, hq⟩ := nXe (bsOf pv)
  have hN1 := fun w => Er w m (by unfold BC; omega)
  have hN2 := fun w => Er w j (by unfold BC; omega)
  rw [← hn1] at hN1
  rw [← hn2] at hN2
  rw [← hout]
  rw [← hout, ← hn1, ← hn2, ← hq] at hL
  obtain ⟨HC, HN1, HN2, HL, HQ⟩ := l5h hC hN1 hN2 hL hq
  clear hC hN1 hN2 hL hn1 hn2 hout hfin hparts hfit hR hchk hq hr hs hp hb0 hv hw0
  go_enter func18, ntmps18
  go_wp2_with (first | (rw [← HW0.out]; refine wpList_load_row rfl _ _ rfl w.heap.size rfl _ p (0, 0) _ Hx0.out underlying46 rfl HI.out ?_) | fail)
  refine (HC.out w0 HV0.out).mono ?_
  rintro e' w1 ⟨rfl, hb⟩
  have HBL1 := tbB HBL0 hb
  have hx1 := (hb.block _ lx0).trans hx0
  have lx1 := AJ hx1
  obtain ⟨cx1, fx1⟩ := AA hx1
  have HV1 := lh (HV0.out.below hb)
  clear hb hx0 cx0 fx0
  unfold CW
  go_wp2_with fail
  refine (HN1.out w1).mono ?_
  rintro e w2 ⟨rfl, hb⟩
  have HBL2 := tbB HBL1 hb
  have hx2 := (hb.block _ lx1).trans hx1
  have lx2 := AJ hx2
  obtain ⟨cx2, fx2⟩ := AA hx2
  have HV2 := lh (HV1.out.below hb)
  clear hb hx1 cx1 fx1
  go_wp2_with fail
  refine (HN2.out w2).mono ?_
  rintro e w3 ⟨rfl, hb⟩
  have HBL3 := tbB HBL2 hb
  have hx3 := (hb.block _ lx2).trans hx2
  have lx3 := AJ hx3
  obtain ⟨cx3, fx3⟩ := AA hx3
  have HV3 := lh (HV2.out.below hb)
  clear hb hx2 cx2 fx2
  go_wp2_with fail
  refine wp_region_noPanic ?_
  refine Wr.BI (S := (fun W => W.heap[w.heap.size]? = some (.cells p 46 (0, 0)))) (K := []) (by kernel_rfl) ?_
  change Wr.Ar _ _ _ _ _ _ _ _ _ (World.drew w3)
  have hS0 : (World.drew w3).heap[w.heap.size]? = some (.cells p 46 (0, 0)) := hx3
  have hBL0 : Below w3.heap.size w3 (World.drew w3) := Bl.drew (Below.refl _ _)
  refine Wr.tkI 0 ?_ ?_ hS0 ?_
  rotate_left
  ·intro wq hSw
   have q0 := hSw
   obtain ⟨qc0, qf0⟩ := AA q0
   go_simp
   rfl
  simp only [sq]
  refine Wr.tkI 1 ?_ ?_ hS0 ?_
  rotate_left
  ·intro wq hSw
   have q0 := hSw
   obtain ⟨qc0, qf0⟩ := AA q0
   go_simp
   rfl
  simp only [sq]
  refine Wr.tkI 2 ?_ ?_ hS0 ?_
  rotate_left
  ·intro wq hSw
   have q0 := hSw
   obtain ⟨qc0, qf0⟩ := AA q0
   go_simp
   rfl
  simp only [sq]
  refine Wr.tkI 3 ?_ ?_ hS0 ?_
  rotate_left
  ·intro wq hSw
   have q0 := hSw
   obtain ⟨qc0, qf0⟩ := AA q0
   go_simp
   rfl
  simp only [sq]
  refine Wr.tkI 4 ?_ ?_ hS0 ?_
  rotate_left
  ·intro wq hSw
   have q0 := hSw
   obtain ⟨qc0, qf0⟩ := AA q0
   go_simp
   rfl
  simp only [sq]
  refine Wr.tkI 5 ?_ ?_ hS0 ?_
  rotate_left
  ·intro wq hSw
   have q0 := hSw
   obtain ⟨qc0, qf0⟩ := AA q0
   go_simp
   rfl
  simp only [sq]
  refine Wr.tkK (i := 6) (v := (.string q)) rfl (.inl ⟨by rfl, ?_⟩) hS0 ?_
  ·intro wq hSw
   have q0 := hSw
   obtain ⟨qc0, qf0⟩ := AA q0
   have hcv := BX wq 100 9 5 underlying100 underlying5 underlying9 _ _ (YM HP.out q0)
   rw [← HQ.out] at hcv
   go_simp
  simp only [sq]
  refine Wr.Ab (i := 7) (by kernel_rfl) ?_
  refine Ap rfl (by rfl) (w' := (World.drew w3).alloc (.cells #[.string ⟨#[104, 101, 97, 100]⟩, .string r, .string n1, .string n2, .string q] 9)) (v := .slice (some ⟨(World.drew w3).heap.size, 0, none⟩) 5 5) (by go_simp; first | done | rfl) ?_
  obtain ⟨w6, hw_w6⟩ := nXe ((World.drew w3).alloc (.cells #[.string ⟨#[104, 101, 97, 100]⟩, .string r, .string n1, .string n2, .string q] 9))
  rw [← hw_w6]
  have hb_w6 : Below (World.drew w3).heap.size (World.drew w3) w6 := by rw [hw_w6]; exact bAx
  have hn_w6 : w6.heap[(World.drew w3).heap.size]? = some (.cells #[.string ⟨#[104, 101, 97, 100]⟩, .string r, .string n1, .string n2, .string q] 9 (0, 0)) := by rw [hw_w6]; exact Ad _ rfl
  have hS1 : w6.heap[w.heap.size]? = some (.cells p 46 (0, 0)) := (hb_w6.block _ (AJ (hS0))).trans (hS0)
  have hBL1 : Below w3.heap.size w3 w6 := hBL0.trans (hb_w6.mono hBL0.size)
  clear hw_w6
  refine ⟨hS1, ?_⟩
  simp only [sq]
  refine Wr.Ab (i := 8) (by kernel_rfl) ?_
  refine BR rfl (by rfl) (by go_simp; all_goals (and_intros <;> rfl)) ?_
  refine (HL.out w6 _ (EventB.EW hn_w6 rfl (by simp [maxLen]))).mono ?_
  rintro e w7 ⟨rfl, hb_w7⟩
  have hS2 : w7.heap[w.heap.size]? = some (.cells p 46 (0, 0)) := (hb_w7.block _ (AJ (hS1))).trans (hS1)
  have hBL2 : Below w3.heap.size w3 w7 := hBL1.trans (hb_w7.mono hBL1.size)
  refine ⟨_, rfl, ?_, ?_⟩
  ·exact hS2
  simp only [sq]
  refine Wr.tkI 9 ?_ ?_ hS2 ?_
  rotate_left
  ·intro wq hSw
   have q0 := hSw
   obtain ⟨qc0, qf0⟩ := AA q0
   go_simp
   rfl
  simp only [sq]
  refine Wr.tkI 10 ?_ ?_ hS2 ?_
  rotate_left
  ·intro wq hSw
   have q0 := hSw
   obtain ⟨qc0, qf0⟩ := AA q0
   go_simp
   rfl
  simp only [sq]
  refine Wr.tkI 11 ?_ ?_ hS2 ?_
  rotate_left
  ·intro wq hSw
   have q0 := hSw
   obtain ⟨qc0, qf0⟩ := AA q0
   go_simp
   rfl
  simp only [sq]
  refine Wr.tkI 12 ?_ ?_ hS2 ?_
  rotate_left
  ·intro wq hSw
   have q0 := hSw
   obtain ⟨qc0, qf0⟩ := AA q0
   go_simp
   rfl
  simp only [sq]
  refine Wr.Ag (by kernel_rfl) (NoPanic.normal ?_) _
  go_wp2
  go_ret2
  exact ⟨rfl, HBL3.out.trans (hBL2.mono HBL3.out.size)⟩
def ofA (r : ByteArray) (ep ix : Int) (x : Ent) : Array Value := if EntS.BD x = true then hdA r ep ix (EntX.sumE x).l ⟨#[]⟩ else hdZ
theorem cells32 (C : Array Value) (h : C.size = 32) : ∃ c0 c1 c2 c3 c4 c5 c6 c7 c8 c9 c10 c11 c12 c13 c14 c15 c16 c17 c18 c19 c20 c21 c22 c23 c24 c25 c26 c27 c28 c29 c30 c31 : Value, C = #[c0, c1, c2, c3, c4, c5, c6, c7, c8, c9, c10, c11, c12, c13, c14, c15, c16, c17, c18, c19, c20, c21, c22, c23, c24, c25, c26, c27, c28, c29, c30, c31] := by
 obtain ⟨l⟩ := C
 have hl : l.length = 32 := h
 match l, hl with
 | [c0, c1, c2, c3, c4, c5, c6, c7, c8, c9, c10, c11, c12, c13, c14, c15, c16, c17, c18, c19, c20, c21, c22, c23, c24, c25, c26, c27, c28, c29, c30, c31], _ => exact ⟨_, _, _, _, _, _, _, _, _, _, _, _, _, _, _, _, _, _, _, _, _, _, _, _, _, _, _, _, _, _, _, _, rfl⟩
theorem built_hd (r : ByteArray) (ep ix : Int) (X : H32) (C Y : Array Value) (hC : C = X.A) (hY : Y = hdA r ep ix X.l ⟨#[]⟩) : Tryz.prog.built 46 [(0, .string r), (1, .int .i64 ep), (2, .int .i64 ix), (3, .agg C)] = some Y := by
 have hY2 : Y = (([.string r, .int .i64 ep, .int .i64 ix] ++ C.toList ++ [.string ⟨#[]⟩] : List Value)).toArray := by
  rw [hY, hC]
  rfl
 obtain ⟨c0, c1, c2, c3, c4, c5, c6, c7, c8, c9, c10, c11, c12, c13, c14, c15, c16, c17, c18, c19, c20, c21, c22, c23, c24, c25, c26, c27, c28, c29, c30, c31, hc⟩ := cells32 C (by rw [hC]; exact X.size)
 rw [hY2, hc]
 clear hY2 hc hC hY X Y C
 change _ = _
 kernel_rfl
theorem ak (w : World) (p : Array Value) (r : ByteArray) (ep ix : Int) (pv : List UInt8) (e s : ByteArray) (hp : EntP p r ep ix pv e s) (hv : Am w) (hk : Au w) (hr : r.size ≤ 140737488351232) (he : e.size ≤ maxLen) (hs : s.size ≤ maxLen) :
 Calls Tryz.prog 28 #[.agg p] w (RB (.tuple #[.agg (ofA r ep ix (Bp r ep ix pv e s)), .int .i64 (CW (EntS.BD (Bp r ep ix pv e s)))]) w) := by
 have hS := fun w hv hk => EntX.Ee w p r ep ix pv e s hp hv hk hr he hs
 have hps := hp.size
 have hpi : (Tryz.prog.info? 81).map (·.size) = some 37 := by kernel_rfl
 rw [← hps] at hpi
 have HI := lh hpi
 have p0 := hp.c0
 have p1 := hp.c1
 have p2 := hp.c2
 unfold ofA
 obtain ⟨x, hx⟩ := nXe (Bp r ep ix pv e s)
 rw [← hx] at hS ⊢
 obtain ⟨X, hX⟩ := nXe (EntX.sumE x)
 obtain ⟨C, hC⟩ := nXe (X.A)
 rw [← hX, ← hC] at hS
 have HCS : Hid ((Tryz.prog.info? 44).map (·.size) = some C.size) := lh (by rw [hC]; exact X.info)
 have HCN : Hid (32 = C.size) := lh (by rw [hC]; exact X.size.symm)
 have HCO : Hid (C.all (·.oneCell') = true) := lh (by rw [hC]; exact X.one)
 obtain ⟨Z, hZ⟩ := nXe (hdZ)
 have HLIT : Hid (zq2 Z) := lh (by rw [hZ]; unfold zq2; kernel_rfl)
 have HZN : Hid (Z.size = 36) := lh (by rw [hZ]; rfl)
 have HZS : Hid ((Tryz.prog.info? 46).map (·.size) = some Z.size) := lh (by rw [HZN.out]; kernel_rfl)
 have HZO : Hid (Z.all (·.oneCell') = true) := lh (by rw [hZ]; exact Av _ _ _ _ _)
 obtain ⟨Y, hY⟩ := nXe (hdA r ep ix X.l ⟨#[]⟩)
 have hYn : Y.size = 36 := by rw [hY]; exact C8 X.len
 have HYS : Hid ((Tryz.prog.info? 46).map (·.size) = some Y.size) := lh (by rw [hYn]; kernel_rfl)
 have HYN : Hid (Z.size = Y.size) := lh (by rw [hYn]; exact HZN.out)
 have HYO : Hid (Y.all (·.oneCell') = true) := lh (by rw [hY]; exact Av _ _ _ _ _)
 have HYB : Hid (Tryz.prog.built 46 [(0, .string r), (1, .int .i64 ep), (2, .int .i64 ix), (3, .agg C)] = some Y) := lh (built_hd r ep ix X C Y hC hY)
 obtain ⟨w0, hw0⟩ := nXe ((w.alloc (.cells p 81)).alloc (.cells Z 46))
 have hb0 : Below w.heap.size w w0 := by rw [hw0]; exact ((Below.refl _ w).alloc nR _).alloc (by simp) _
 have HX0 := lh (show w0.heap[w.heap.size]? = some (.cells p 81 (0, 0)) by rw [hw0]; exact Ak (AL _ _) _)
 have HZ0 := lh (show w0.heap[w.heap.size + 1]? = some (.cells Z 46 (0, 0)) by rw [hw0]; exact Ad _ (by simp))
 obtain ⟨HBL0, HW0, HV0, HK0, HS⟩ := l5h hb0 hw0 (hv.below hb0) (hk.below hb0) hS
 have hres : (if EntS.BD x = true then hdA r ep ix (EntX.sumE x).l ⟨#[]⟩ else hdZ) = (if EntS.BD x = true then Y else Z) := by rw [hY, hX, hZ]
 rw [hres]
 obtain ⟨c, hc⟩ := nXe (EntS.BD x)
 rw [← hc] at HS ⊢
 obtain ⟨P0, P1, P2⟩ := l3h p0 p1 p2
 clear hS hps hpi p0 p1 p2 hX hC hZ hY hYn hw0 hb0 hv hk hr he hs hp hres hc hx
 cases c
 ·rw [if_neg (by simp)]
  have HS := lh (show ∀ w, Am w → Au w → Calls Tryz.prog 52 #[.agg p] w (RB (.tuple #[.agg C, .int .i64 2]) w) from HS.out)
  change Calls _ _ _ _ (RB (.tuple #[.agg Z, .int .i64 2]) w)
  go_enter func28, ntmps28
  go_wp2_with (first | (rw [HLIT.out, ← HW0.out]; refine wpList_load_row rfl _ _ rfl w.heap.size rfl _ p (0, 0) _ HX0.out underlying81 rfl HI.out ?_) | fail)
  refine (HS.out w0 HV0.out HK0.out).mono ?_
  rintro e' w1 ⟨rfl, hb⟩
  have HBL1 := tbB HBL0 hb
  have HX1 := kpB hb HX0
  have HZ1 := kpB hb HZ0
  have hlz := AJ HZ1.out
  clear hb
  go_wp2_with (first | (refine AC rfl _ _ _ rfl w1.heap.size C rfl rfl _ _ (AL _ _) HCS.out (by rw [← HCN.out]; rfl) HCO.out ?_) | fail)
  intro u1 hu1
  have hb : Below w1.heap.size w1 u1 := by rw [hu1.out]; exact AQ bAx nR _
  have hy : u1.heap[w1.heap.size]? = some (.cells C 44 (0, 0)) := by rw [hu1.out]; exact AR (AL _ _)
  clear hu1
  obtain ⟨w2, hww⟩ : ∃ w', w' = u1 := ⟨_, rfl⟩
  rw [← hww] at hb hy ⊢
  clear hww
  have HBL2 := tbB HBL1 hb
  have hx2 := (hb.block _ (AJ HX1.out)).trans HX1.out
  have HZ2 := kpB hb HZ1
  have HC2 := lh hy
  have k0 : w2.cell? ⟨w.heap.size, 0, none⟩ = some (.string r) := by rw [AO hx2]; exact P0.out
  have k1 : w2.cell? ⟨w.heap.size, 1, none⟩ = some (.int .i64 ep) := by rw [AO hx2]; exact P1.out
  have k2 : w2.cell? ⟨w.heap.size, 2, none⟩ = some (.int .i64 ix) := by rw [AO hx2]; exact P2.out
  clear hb hy hx2
  go_wp2_with (first | (refine AC rfl _ _ _ rfl (w.heap.size + 1) Z rfl (by rw [← HLIT.out]; rfl) _ _ HZ2.out HZS.out rfl HZO.out ?_) | fail)
  intro wf hwf
  go_wp2
  refine bodyPost_ret (v := .tuple #[.agg Z, .int .i64 2]) (WireT.AU rfl _ _ (w.heap.size + 1) 46 Z (0, 0) _ rfl (by rw [hwf.out]; exact AR HZ2.out) underlying46 rfl HZS.out rfl) rfl ⟨rfl, by rw [hwf.out]; exact AQ HBL2.out (by omega) _⟩
 ·rw [if_pos rfl]
  have HS := lh (show ∀ w, Am w → Au w → Calls Tryz.prog 52 #[.agg p] w (RB (.tuple #[.agg C, .int .i64 0]) w) from HS.out)
  change Calls _ _ _ _ (RB (.tuple #[.agg Y, .int .i64 0]) w)
  go_enter func28, ntmps28
  go_wp2_with (first | (rw [HLIT.out, ← HW0.out]; refine wpList_load_row rfl _ _ rfl w.heap.size rfl _ p (0, 0) _ HX0.out underlying81 rfl HI.out ?_) | fail)
  refine (HS.out w0 HV0.out HK0.out).mono ?_
  rintro e' w1 ⟨rfl, hb⟩
  have HBL1 := tbB HBL0 hb
  have HX1 := kpB hb HX0
  have HZ1 := kpB hb HZ0
  have hlz := AJ HZ1.out
  clear hb
  go_wp2_with (first | (refine AC rfl _ _ _ rfl w1.heap.size C rfl rfl _ _ (AL _ _) HCS.out (by rw [← HCN.out]; rfl) HCO.out ?_) | fail)
  intro u1 hu1
  have hb : Below w1.heap.size w1 u1 := by rw [hu1.out]; exact AQ bAx nR _
  have hy : u1.heap[w1.heap.size]? = some (.cells C 44 (0, 0)) := by rw [hu1.out]; exact AR (AL _ _)
  clear hu1
  obtain ⟨w2, hww⟩ : ∃ w', w' = u1 := ⟨_, rfl⟩
  rw [← hww] at hb hy ⊢
  clear hww
  have HBL2 := tbB HBL1 hb
  have hx2 := (hb.block _ (AJ HX1.out)).trans HX1.out
  have HZ2 := kpB hb HZ1
  have HC2 := lh hy
  have k0 : w2.cell? ⟨w.heap.size, 0, none⟩ = some (.string r) := by rw [AO hx2]; exact P0.out
  have k1 : w2.cell? ⟨w.heap.size, 1, none⟩ = some (.int .i64 ep) := by rw [AO hx2]; exact P1.out
  have k2 : w2.cell? ⟨w.heap.size, 2, none⟩ = some (.int .i64 ix) := by rw [AO hx2]; exact P2.out
  clear hb hy hx2
  go_wp2_with (first | (refine wpList_load_row rfl _ _ rfl w1.heap.size rfl _ C (0, 0) _ HC2.out underlying44 rfl HCS.out ?_) | (refine EntQ.CF rfl 46 _ rfl Y (by first | exact HYB.out | (go_simp; exact HYB.out)) ?_) | (refine AC rfl _ _ _ rfl (w.heap.size + 1) Y rfl rfl _ _ HZ2.out HYS.out HYN.out HYO.out ?_) | fail)
  intro wf hwf
  go_wp2
  refine bodyPost_ret (v := .tuple #[.agg Y, .int .i64 0]) (WireT.AU rfl _ _ (w.heap.size + 1) 46 Y (0, 0) _ rfl (by rw [hwf.out]; exact AR HZ2.out) underlying46 rfl HYS.out rfl) rfl ⟨rfl, by rw [hwf.out]; exact AQ HBL2.out (by omega) _⟩
theorem UU (w : World) (R : Nat) (sd : ByteArray) (h nx : Nat) (v : Value) (x : H32) (hsd : sd.size ≤ 64) (hh : h ≤ 7) (hn : nx < 2 ^ h) (hr0 : w.heap[R]? = some (.cells (CZ sd h nx v x) 90 (0, 0)))
 (hv0 : Sl w v 32 (2 ^ h) ((Bv (bl sd) (2 ^ h)).flatMap H32.cs)) (hvb : ∀ k, v.ownBlock = some k → k < w.heap.size) (hk : Au w)
 (p : Array Value) (r : ByteArray) (ep ix : Int) (pv : List UInt8) (s : ByteArray) (hp : HdP p r ep ix pv s) (hv : Am w) (hr : r.size ≤ 140737488351232) (hs : s.size ≤ maxLen) (hchk : CS (hdOf r ep ix pv s) = true) :
 Calls Tryz.prog 17 #[.pointer (some ⟨R, 0, none⟩), .agg p] w fun e' w' => e' = .returned (.tuple #[.agg (hdA r ep ix pv (bsOf (Dq (bl sd) h nx (HdS.text (hdOf r ep ix pv s))))), .int .i64 0]) ∧
  w'.heap[R]? = some (.cells (CZ sd h (nx + 1 : Nat) v x) 90 (0, 0)) ∧ Ext (fun k => k = R) w w' := by
 have hT := fun w hv => Qs w p r ep ix pv s hp hv hr hs
 unfold HdS.textOf at hT
 rw [hchk] at hT
 rw [if_pos rfl] at hT
 have hR := HdS.Bw.1 hchk
 have hlen := XY hR hp.len
 have hps := hp.size
 have H35 := lh hp.c35
 have hpi : (Tryz.prog.info? 46).map (·.size) = some 36 := by kernel_rfl
 obtain ⟨Tb, hT2⟩ := nXe (bsOf (HdS.text (hdOf r ep ix pv s)))
 have hTs : Tb.size ≤ 140737488355328 := by rw [hT2, AY]; omega
 have hTb : bl Tb = HdS.text (hdOf r ep ix pv s) := by rw [hT2, AV]
 rw [← hT2] at hT
 rw [← hTb]
 have hS := fun w' (hb : Below w.heap.size w w') => KeyM.PD w' R sd Tb h nx v x hsd hTs hh hn ((hb.block _ (AJ hr0)).trans hr0) (hv0.below hb) (hk.below hb)
 obtain ⟨G, hG⟩ := nXe (bsOf (Dq (bl sd) h nx (bl Tb)))
 rw [← hG] at hS ⊢
 obtain ⟨E, hE⟩ := nXe (hdA r ep ix pv G)
 have hEp : HdP E r ep ix pv G := ⟨hE, hp.len⟩
 have hset : p.setIfInBounds 35 (.string G) = E := by rw [hp.eq, hE, XX _ _ _ hp.len]
 have HES : Hid ((Tryz.prog.info? 46).map (·.size) = some E.size) := lh (by rw [hEp.size]; exact hpi)
 have HEN : Hid (36 = E.size) := lh hEp.size.symm
 have HEO : Hid (E.all (·.oneCell') = true) := lh (by rw [hE]; exact Av _ _ _ _ _)
 rw [← hE]
 obtain ⟨Z, hZ⟩ := nXe (zl2)
 have HLIT : Hid (zq2 Z) := lh hZ.symm
 have HZN : Hid (Z.size = 36) := lh (by rw [hZ]; rfl)
 have hlR := AJ hr0
 obtain ⟨w0, hw0⟩ := nXe ((w.alloc (.cells p 46)).alloc (.cells Z 46))
 have hb0 : Below w.heap.size w w0 := by rw [hw0]; exact ((Below.refl _ w).alloc nR _).alloc (by simp) _
 have HX0 := lh (show w0.heap[w.heap.size]? = some (.cells p 46 (0, 0)) by rw [hw0]; exact Ak (AL _ _) _)
 have HZ0 := lh (show w0.heap[w.heap.size + 1]? = some (.cells Z 46 (0, 0)) by rw [hw0]; exact Ad _ (by simp))
 obtain ⟨HBL0, HW0, HV0, HT, HS⟩ := l5h hb0 hw0 (hv.below hb0) hT hS
 have HI := lh (show (Tryz.prog.info? 46).map (·.size) = some p.size by rw [hps]; exact hpi)
 have Hset := lh hset
 clear hT hS hT2 hchk hR hr hs hp hb0 hv hw0 hpi hps hG hE hEp hset hTb hTs hlen hv0 hr0 hk hvb hZ
 go_enter func17, ntmps17
 go_wp2_with (first | (rw [HLIT.out, ← HW0.out]; refine wpList_load_row rfl _ _ rfl w.heap.size rfl _ p (0, 0) _ HX0.out underlying46 rfl HI.out ?_) | fail)
 refine (HT.out w0 HV0.out).mono ?_
 rintro e' w1 ⟨rfl, hb⟩
 have HBL1 := tbB HBL0 hb
 have HX1 := kpB hb HX0
 have HZ1 := kpB hb HZ0
 clear hb
 unfold CW
 go_wp2_with fail
 refine (HS.out w1 HBL1.out).mono ?_
 rintro e' w2 ⟨rfl, hr2, hE2⟩
 have hx2 := hE2.Ai HX1.out (fun h => by omega)
 have HX2 := lh hx2
 have HZ2 := lh (hE2.Ai HZ1.out (fun h => by omega))
 have HR2 := lh hr2
 have HE2 := lh ((Ext.of_below (S := fun k => k = R) HBL1.out).trans hE2)
 have c35 : w2.cell? ⟨w.heap.size, 35, none⟩ = some (.string s) := by rw [AO hx2]; exact H35.out
 have f35 : w2.frozen? ⟨w.heap.size, 35, none⟩ = false := BK hx2
 have HX3 : Hid ((w2.setCell ⟨w.heap.size, 35, none⟩ (.string G)).heap[w.heap.size]? = some (.cells E 46 (0, 0))) := lh (by rw [← Hset.out]; exact heap_setCell_same hx2 _)
 have HZ3 : Hid ((w2.setCell ⟨w.heap.size, 35, none⟩ (.string G)).heap[w.heap.size + 1]? = some (.cells Z 46 (0, 0))) := lh ((AX _ (by omega)).trans HZ2.out)
 have HR3 : Hid ((w2.setCell ⟨w.heap.size, 35, none⟩ (.string G)).heap[R]? = some (.cells (CZ sd h (nx + 1 : Nat) v x) 90 (0, 0))) := lh ((AX _ (by omega)).trans HR2.out)
 have HE3 : Hid (Ext (fun k => k = R) w (w2.setCell ⟨w.heap.size, 35, none⟩ (.string G))) := lh (HE2.out.setCell (p := ⟨w.heap.size, 35, none⟩) (.inr nR) _)
 clear hr2 hE2 hx2
 go_wp2_with (first | (refine wpList_load_row rfl _ _ rfl w.heap.size rfl _ E (0, 0) _ HX3.out underlying46 rfl HES.out ?_) | (refine AC rfl _ _ _ rfl (w.heap.size + 1) E rfl rfl _ _ HZ3.out HES.out (by rw [HZN.out]; exact HEN.out) HEO.out ?_) | fail)
 intro wf hwf
 go_wp2
 refine bodyPost_ret (v := .tuple #[.agg E, .int .i64 0]) (WireT.AU rfl _ _ (w.heap.size + 1) 46 E (0, 0) _ rfl (by rw [hwf.out]; exact AR HZ3.out) underlying46 rfl HES.out rfl) rfl ⟨rfl, ?_, ?_⟩
 ·rw [hwf.out, CO _ (by omega)]
  exact HR3.out
 ·rw [hwf.out]
  exact HE3.out.grown (row := some (w.heap.size + 1)) (EntW.Nr _ _ _) (fun k hk => by cases hk; exact .inr (by omega))
end HdT
namespace HdL
open Go Go.RowKit Go.Shelf OctetS IdentS EntS OctP OctG IdentP EntP EventC ShaA Steps KeyA KeyS KeyI KeyK TreeA EntK BookA EntL WireT Lift
def hA (ep : Nat) (s : ByteArray) : Array Value := hdA rB (ep : Int) 5 HdK.sm s
theorem hP (ep : Nat) (s : ByteArray) : HdP (hA ep s) rB (ep : Int) 5 HdK.sm s := ⟨rfl, HdK.Wo⟩
/-! ### The ring's root -/
theorem SK (w0 w : World) (R n : Nat) (v : Value) (hR : RingAt w0 w R sS 1 n v) : Calls Tryz.prog 16 #[.pointer (some ⟨R, 0, none⟩)] w (RB (.agg (Ht [115] 1).A) w) := by
 obtain ⟨Rt, NK⟩ := nXe ((Ht [115] 1).A)
 have QI := lh (show (Tryz.prog.info? 44).map (·.size) = some Rt.size by rw [NK]; exact H32.info _)
 have Vk := lh (show 32 = Rt.size by rw [NK, H32.size])
 have Vj := lh (show Rt.all (·.oneCell') = true by rw [NK]; exact H32.one _)
 have hrow := hR.row
 have hrl := AJ hrow
 have Hc0 : ∀ (j : Nat) (u : Value), Rt.toList[j]? = some u → w.cell? ⟨R, 4 + j, none⟩ = some u := by intro j u hu; rw [AO hrow, TH, IB, ← NK, ← hu]; simp
 obtain ⟨Z, hZ⟩ := nXe (CQ.A)
 have HLIT : Hid (zq0 Z) := lh (by rw [hZ]; unfold zq0; kernel_rfl)
 have HZN : Hid (Z.size = 32) := lh (by rw [hZ]; kernel_rfl)
 rw [← NK]
 obtain ⟨w1, hw1⟩ := nXe (w.alloc (.cells Z 44))
 have hb1 : Below w.heap.size w w1 := by rw [hw1]; exact (Below.refl _ w).alloc nR _
 have HZ1 := lh (show w1.heap[w.heap.size]? = some (.cells Z 44 (0, 0)) by rw [hw1]; exact AL _ _)
 have hr1 := (hb1.block _ hrl).trans hrow
 have Hcc := lh (show ∀ (j : Nat) (u : Value), Rt.toList[j]? = some u → w1.cell? ⟨R, 4 + j, none⟩ = some u by intro j u hu; rw [AO hr1, ← AO hrow]; exact Hc0 j u hu)
 obtain ⟨cr1, fr1⟩ := AA hr1
 obtain ⟨HBL1, HW1⟩ := l2h hb1 hw1
 clear hw1 hb1 hr1 hrow Hc0 NK hZ hR
 go_enter func16, ntmps16
 go_wp2_with (first | (rw [HLIT.out, ← HW1.out]; refine Ah rfl _ _ rfl R 4 rfl Rt Hcc.out underlying44 rfl QI.out ?_) | (refine Ah rfl _ _ rfl R 4 rfl Rt Hcc.out underlying44 rfl QI.out ?_) | (refine AC rfl _ _ _ rfl w.heap.size Rt rfl rfl _ _ HZ1.out QI.out (by rw [HZN.out]; exact Vk.out) Vj.out ?_) | fail)
 intro wf hwf
 go_wp2
 refine bodyPost_ret (v := .agg Rt) (results_cell_row rfl _ _ w.heap.size _ Rt (0, 0) _ rfl (by rw [hwf.out]; exact AR HZ1.out) underlying44 rfl QI.out) rfl ⟨rfl, by rw [hwf.out]; exact AQ HBL1.out nR _⟩
end HdL
namespace SnK
open Go Go.RowKit Go.ChangeMaps
section
variable {P : Program} {w : World} {t k e : TypeId} {b clock : Nat} {es : Array MapEntry}
theorem TI (K : WideMaps.KeyLaw P k) (ht : P.underlying t = some (.map k e)) {z : Value} (hz : (zeroValue e).run P w = .ok z w) (hb : w.heap[b]? = some (.map es clock)) (hk : ∀ x ∈ es.toList, ∃ l, keyOf P k x.key = some l) {key : Value} {kl : Lit} (hkey : keyOf P k key = some kl) :
 ((Instr.lookup t (.map (some b)) key true).run P w = .ok (.tuple #[z, .bool false]) w ∧ ∀ x ∈ es.toList, x.key ≠ key) ∨
 ∃ e0 ∈ es.toList, e0.key = key ∧ (Instr.lookup t (.map (some b)) key true).run P w = .ok (.tuple #[e0.val, .bool true]) w := by
 rcases K.find w hkey es.toList hk with ⟨h1, h2⟩ | ⟨j, e0, h1, h2, h3⟩
 ·exact .inl ⟨by simp [Instr.lookup, run_underlying ht, MapKept.run_getObj_map hb, K.check w _ hkey, h1, hz, Result.andThen], h2⟩
 ·exact .inr ⟨e0, List.mem_of_getElem? h2, h3, by simp [Instr.lookup, run_underlying ht, MapKept.run_getObj_map hb, K.check w _ hkey, h1, Result.andThen]⟩
theorem Uq (K : WideMaps.KeyLaw P k) (ht : P.underlying t = some (.map k e)) (hb : w.heap[b]? = some (.map es clock)) (hk : ∀ x ∈ es.toList, ∃ l, keyOf P k x.key = some l) {key val : Value} {kl : Lit} (hkey : keyOf P k key = some kl) (hno : ∀ x ∈ es.toList, x.key ≠ key) :
 (Instr.mapUpdate t (.map (some b)) key val).run P w = .ok () (setBlock w b (.map (es.push ⟨key, val, clock⟩) (clock + 1))) := by
 rcases K.find w hkey es.toList hk with ⟨h1, h2⟩ | ⟨j, e0, h1, h2, h3⟩
 ·simp [Instr.mapUpdate, run_underlying ht, MapKept.run_getObj_map hb, K.check w false hkey, h1, MapKept.run_setObj_map _ hb, Result.andThen, setBlock]
 ·exact absurd h3 (hno e0 (List.mem_of_getElem? h2))
theorem PQ (o : Obj) {x : Obj} (hb : w.heap[b]? = some x) : (setBlock w b o).heap[b]? = some o := by
 unfold setBlock
 simp [Array.getElem?_setIfInBounds, (Array.getElem?_eq_some_iff.1 hb).1]
theorem FH (o : Obj) {c : Nat} (h : c ≠ b) : (setBlock w b o).heap[c]? = w.heap[c]? := by
 unfold setBlock
 simp [Array.getElem?_setIfInBounds, Ne.symm h]
theorem O6 {S : Nat → Prop} {a : World} (h : Ext S a w) (hb : S b ∨ a.heap.size ≤ b) (o : Obj) : Ext S a (setBlock w b o) :=
 ⟨h.os, h.tape, h.output, by simpa [setBlock] using h.size, fun k hk hs => (FH o (fun e => by rcases hb with hb | hb; exact hs (e ▸ hb); omega)).trans (h.block k hk hs)⟩
end
def Eo (sv ep ix : Int) (room : ByteArray) : Array Value := #[.int .i64 sv, .string room, .int .i64 ep, .int .i64 ix]
def InI (n : Int) : Prop := -9223372036854775808 ≤ n ∧ n ≤ 9223372036854775807
theorem OU : WideMaps.KeyLaw Tryz.prog 77 := deep_law_laid (by kernel_rfl) (m := 9) (by omega) (of_decide_eq_true (by kernel_rfl)) (by kernel_rfl) (by kernel_rfl)
theorem Rq (sv ep ix : Int) (room : ByteArray) (h1 : InI sv) (h2 : InI ep) (h3 : InI ix) (h4 : room.size ≤ maxLen) : ∃ l, keyOf Tryz.prog 77 (.agg (Eo sv ep ix room)) = some l := by
 have hu : Tryz.prog.underlying 77 = some (.struct (Tryz.prog.fieldsOf 77)) := by kernel_rfl
 have hkt : Tryz.prog.keyType 77 = true := by kernel_rfl
 have hF : (Tryz.prog.fieldsOf 77) = #[⟨"server", 3, 0, false, "", "palaver/seen", 0⟩, ⟨"room", 9, 1, false, "", "palaver/seen", 8⟩, ⟨"epoch", 3, 2, false, "", "palaver/seen", 24⟩, ⟨"index", 3, 3, false, "", "palaver/seen", 32⟩] := by kernel_rfl
 have hc : Tryz.prog.cellsOf 77 = 4 := by kernel_rfl
 have ci : Tryz.prog.cellsOf 3 = 1 := by kernel_rfl
 have cs : Tryz.prog.cellsOf 9 = 1 := by kernel_rfl
 have ui : Tryz.prog.underlying 3 = some (.int .i64) := by kernel_rfl
 have us : Tryz.prog.underlying 9 = some .string := by kernel_rfl
 have hn : 1 ≤ Tryz.prog.types.size := of_decide_eq_true (by kernel_rfl)
 obtain ⟨d, hd⟩ : ∃ d, Tryz.prog.types.size + 1 = d + 2 := ⟨Tryz.prog.types.size - 1, by omega⟩
 have wf : ∀ n : Int, InI n → (Lit.int .i64 n).wf = true := fun n h => by
  unfold InI at h
  simp [Lit.wf, IntKind.min, IntKind.max, IntKind.signed, IntKind.bits]
  omega
 have w1 := wf sv h1
 have w2 := wf ep h2
 have w3 := wf ix h3
 unfold keyOf
 rw [hu, hd]
 simp only [hkt, Bool.true_and]
 have hfm : Value.formed Tryz.prog 77 (.agg (Eo sv ep ix room)) = true := by
  simp only [Value.formed, hu, hc]
  rfl
 have hl : Tryz.prog.keyLits (d + 2) 77 (Value.cells (.agg (Eo sv ep ix room))).toList = some [.int .i64 sv, .string room.data.toList, .int .i64 ep, .int .i64 ix] := by
  have e1 : ∀ n, (Lit.int .i64 n).wf = true → Tryz.prog.keyLits (d + 1) 3 [.int .i64 n] = some [.int .i64 n] := fun n h => by simp [Program.keyLits, ui, h]
  have e2 : Tryz.prog.keyLits (d + 1) 9 [.string room] = some [.string room.data.toList] := by simp [Program.keyLits, us, h4]
  have e3 : (Value.cells (.agg (Eo sv ep ix room))).toList = [.int .i64 sv, .string room, .int .i64 ep, .int .i64 ix] := rfl
  rw [e3]
  unfold Program.keyLits
  rw [hu]
  simp [hF, hc, ci, cs, e1 sv w1, e1 ep w2, e1 ix w3, e2]
 rw [if_pos hfm, hl]
 exact ⟨_, rfl⟩
end SnK
namespace SnT
open Go OctetS ShaS EntS WireS WireT
structure Sn where
 sv : Int
 h : Hd
 text : ByteArray
 sig : ByteArray
def atB (sv : Int) (h : Hd) (x : Sn) : Bool := decide (x.sv = sv) && (decide (x.h.room = h.room) && (decide (x.h.ep = h.ep) && decide (x.h.ix = h.ix)))
theorem F6 {sv : Int} {h : Hd} {x : Sn} : atB sv h x = true ↔ x.sv = sv ∧ x.h.room = h.room ∧ x.h.ep = h.ep ∧ x.h.ix = h.ix := by simp [atB]
def first (L : List Sn) (sv : Int) (h : Hd) : Option Sn := L.find? (atB sv h)
structure Out where
 l : List Sn
 p : Array Value
 is : Bool
 y : Int
def DI (L : List Sn) (sv : Int) (h : Hd) (text sig : ByteArray) : Out := match first L sv h with
 | some x => if x.h.sum = h.sum then ⟨L, pfZ, false, 0⟩ else ⟨L, pfA sv x.text x.sig text sig, true, 0⟩
 | none => if L.length = 4096 then ⟨L, pfZ, false, 8⟩ else ⟨L ++ [⟨sv, h, text, sig⟩], pfZ, false, 0⟩
theorem Tf (L : List Sn) (sv : Int) (h : Hd) (text sig : ByteArray) : (DI L sv h text sig).l.length ≤ L.length + 1 := by
 unfold DI
 split
 ·split <;> simp
 ·split <;> simp
end SnT
namespace SnM
open Go Go.RowKit Go.ChangeMaps OctetS ShaS EntS WireS WireT SnK SnT
def Dx (sm : List UInt8) (text sig : ByteArray) : Array Value := (byV sm ++ [.string text, .string sig] : List Value).toArray
def Qw : Array Value := Dx Cg ⟨#[]⟩ ⟨#[]⟩
theorem NI {sm : List UInt8} (h : sm.length = 32) (text sig : ByteArray) : (Dx sm text sig).size = 34 := by unfold Dx; simp [AZ, h]
theorem Nc (sm : List UInt8) (text sig : ByteArray) : (Dx sm text sig).all (·.oneCell') = true := by unfold Dx; simp [byV, Value.oneCell']
def NE (sv : Int) (h : Hd) : Value := .agg (Eo sv h.ep h.ix (bsOf h.room))
def Sn.w (x : Sn) : Array Value := Dx x.h.sum x.text x.sig
structure WfH (sv : Int) (h : Hd) : Prop where
 sv : InI sv
 ep : InI h.ep
 ix : InI h.ix
 room : (bsOf h.room).size ≤ maxLen
 sum : h.sum.length = 32
theorem WfH.key {sv : Int} {h : Hd} (w : WfH sv h) : ∃ l, keyOf Tryz.prog 77 (NE sv h) = some l := Rq sv h.ep h.ix (bsOf h.room) w.sv w.ep w.ix w.room
def Df : Nat → List Sn → List MapEntry
 | _, [] => []
 | i, x :: l => ⟨NE x.sv x.h, .agg (Sn.w x), i⟩ :: Df (i + 1) l
def M6 (L : List Sn) : Array MapEntry := (Df 0 L).toArray
theorem Gc : ∀ (l m : List Sn) (i : Nat), Df i (l ++ m) = Df i l ++ Df (i + l.length) m
 | [], m, i => by simp [Df]
 | x :: l, m, i => by
   rw [List.cons_append, Df, Df, Gc l m (i + 1), List.length_cons, List.cons_append, Nat.add_assoc, Nat.add_comm 1]
theorem SB (L : List Sn) (x : Sn) : M6 (L ++ [x]) = (M6 L).push ⟨NE x.sv x.h, .agg (Sn.w x), L.length⟩ := by
 unfold M6
 rw [Gc]
 simp [Df]
theorem N7 : ∀ (l : List Sn) (i : Nat), (Df i l).length = l.length
 | [], _ => rfl
 | x :: l, i => by rw [Df, List.length_cons, List.length_cons, N7 l]
theorem SA (L : List Sn) : (M6 L).size = L.length := by unfold M6; rw [List.size_toArray, N7]
theorem FO : ∀ (l : List Sn) (i : Nat) {e : MapEntry}, e ∈ Df i l → ∃ x ∈ l, e.key = NE x.sv x.h ∧ e.val = .agg (Sn.w x)
 | [], _, e, h => by simp [Df] at h
 | x :: l, i, e, h => by
   rw [Df, List.mem_cons] at h
   rcases h with rfl | h
   ·exact ⟨x, List.mem_cons_self .., rfl, rfl⟩
   ·obtain ⟨y, hy, hk⟩ := FO l (i + 1) h
    exact ⟨y, List.mem_cons_of_mem _ hy, hk⟩
theorem Nz : ∀ (l : List Sn) (i : Nat) {x : Sn}, x ∈ l → ∃ e ∈ Df i l, e.key = NE x.sv x.h
 | [], _, x, h => by simp at h
 | y :: l, i, x, h => by
   rw [Df]
   rcases List.mem_cons.1 h with rfl | h
   ·exact ⟨_, List.mem_cons_self .., rfl⟩
   ·obtain ⟨e, he, hk⟩ := Nz l (i + 1) h
    exact ⟨e, List.mem_cons_of_mem _ he, hk⟩
theorem XK {sv sv' : Int} {h h' : Hd} (e : NE sv h = NE sv' h') : sv = sv' ∧ h.room = h'.room ∧ h.ep = h'.ep ∧ h.ix = h'.ix := by
 unfold NE Eo at e
 simp only [Value.agg.injEq, Array.mk.injEq, List.cons.injEq, Value.int.injEq, Value.string.injEq, and_true, true_and] at e
 obtain ⟨e1, e2, e3, e4⟩ := e
 have := congrArg bl e2
 rw [AV, AV] at this
 exact ⟨e1, this, e3, e4⟩
theorem Qd {sv : Int} {h : Hd} {x : Sn} : NE x.sv x.h = NE sv h ↔ atB sv h x = true := by
 rw [F6]
 constructor
 ·exact XK
 ·rintro ⟨h1, h2, h3, h4⟩
  unfold NE
  rw [h1, h2, h3, h4]
structure SnAt (w : World) (S m : Nat) (bv : Value) (L : List Sn) : Prop where
 blk : w.heap[S]? = some (.cells #[bv, .map (some m)] 73 (0, 0))
 mp : w.heap[m]? = some (.map (M6 L) L.length)
 wf : ∀ x ∈ L, WfH x.sv x.h
 uniq : L.Pairwise (fun x y => atB y.sv y.h x = false)
theorem SnAt.ne {w : World} {S m : Nat} {bv : Value} {L : List Sn} (h : SnAt w S m bv L) : S ≠ m := fun e => by
 have h1 := h.blk
 rw [e, h.mp] at h1
 cases h1
theorem SnAt.ext {Q : Nat → Prop} {w w' : World} {S m : Nat} {bv : Value} {L : List Sn} (h : SnAt w S m bv L) (he : Ext Q w w') (h1 : ¬ Q S) (h2 : ¬ Q m) : SnAt w' S m bv L := ⟨he.Ai h.blk h1, he.Ai h.mp h2, h.wf, h.uniq⟩
theorem SnAt.below {w w' : World} {S m : Nat} {bv : Value} {L : List Sn} (h : SnAt w S m bv L) (hb : Below w.heap.size w w') : SnAt w' S m bv L := ⟨(hb.block _ (AJ h.blk)).trans h.blk, (hb.block _ (AJ h.mp)).trans h.mp, h.wf, h.uniq⟩
def RI (L : List Sn) (sv : Int) (h : Hd) : Value := match first L sv h with
 | some x => .tuple #[.agg (Sn.w x), .bool true]
 | none => .tuple #[.agg Qw, .bool false]
theorem Ra (w : World) : (zeroValue 79).run Tryz.prog w = .ok (.agg Qw) w := by
 have h : (Tryz.prog.info? 79).map (·.zero) = some (some (.agg Qw)) := by kernel_rfl
 cases hi : Tryz.prog.info? 79 with
 | none => rw [hi] at h; cases h
 | some i =>
   rw [hi] at h
   have hz : i.zero = some (.agg Qw) := by simpa using h
   simp [zeroValue, typeInfo, hi, hz, Result.andThen]
theorem Oa {L : List Sn} (hw : ∀ x ∈ L, WfH x.sv x.h) : ∀ x ∈ (M6 L).toList, ∃ l, keyOf Tryz.prog 77 x.key = some l := by
 intro e he
 unfold M6 at he
 obtain ⟨x, hx, hk, _⟩ := FO L 0 (by simpa using he)
 rw [hk]
 exact (hw x hx).key
theorem R8 {L : List Sn} {x : Sn} {sv : Int} {h : Hd} (hu : L.Pairwise (fun x y => atB y.sv y.h x = false)) (hx : x ∈ L) (ha : atB sv h x = true) : first L sv h = some x := by
 unfold first
 induction L with
 | nil => simp at hx
 | cons y l ih =>
   rw [List.pairwise_cons] at hu
   rcases List.mem_cons.1 hx with rfl | hx
   ·rw [List.find?_cons_of_pos ha]
   ·have : ¬ atB sv h y = true := fun hy => by
        have h1 := hu.1 x hx
        obtain ⟨a1, a2, a3, a4⟩ := F6.1 ha
        obtain ⟨b1, b2, b3, b4⟩ := F6.1 hy
        rw [F6.2 ⟨b1.trans a1.symm, b2.trans a2.symm, b3.trans a3.symm, b4.trans a4.symm⟩] at h1
        cases h1
    rw [List.find?_cons_of_neg this]
    exact ih hu.2 hx
theorem look_ok {w : World} {m : Nat} {L : List Sn} {sv : Int} {h : Hd} (hm : w.heap[m]? = some (.map (M6 L) L.length)) (hw : ∀ x ∈ L, WfH x.sv x.h) (hu : L.Pairwise (fun x y => atB y.sv y.h x = false)) (hk : WfH sv h) :
 (Instr.lookup 71 (.map (some m)) (NE sv h) true).run Tryz.prog w = .ok (RI L sv h) w := by
 obtain ⟨l, hl⟩ := hk.key
 have ht : Tryz.prog.underlying 71 = some (.map 77 79) := by kernel_rfl
 unfold RI
 rcases TI OU ht (Ra w) hm (Oa hw) hl with ⟨h1, h2⟩ | ⟨e, he, hek, h1⟩
 ·have hf : first L sv h = none := by
   unfold first
   rw [List.find?_eq_none]
   intro x hx ha
   obtain ⟨e, he, hk'⟩ := Nz L 0 hx
   exact h2 e (by unfold M6; simpa using he) (hk'.trans (Qd.2 (by simpa using ha)))
  rw [hf]
  exact h1
 ·unfold M6 at he
  obtain ⟨x, hx, hk', hv⟩ := FO L 0 (by simpa using he)
  rw [R8 hu hx (Qd.1 (hk'.symm.trans hek))]
  rw [h1, hv]
theorem Wh {w : World} {m : Nat} {L : List Sn} {sv : Int} {h : Hd} {text sig : ByteArray} (hm : w.heap[m]? = some (.map (M6 L) L.length)) (hw : ∀ x ∈ L, WfH x.sv x.h) (hk : WfH sv h) (hf : first L sv h = none) :
 (Instr.mapUpdate 71 (.map (some m)) (NE sv h) (.agg (Dx h.sum text sig))).run Tryz.prog w = .ok () (setBlock w m (.map (M6 (L ++ [⟨sv, h, text, sig⟩])) (L ++ [(⟨sv, h, text, sig⟩ : Sn)]).length)) := by
 obtain ⟨l, hl⟩ := hk.key
 have ht : Tryz.prog.underlying 71 = some (.map 77 79) := by kernel_rfl
 rw [Uq OU ht hm (Oa hw) hl, SB, List.length_append]
 ·rfl
 ·intro e he hke
  unfold M6 at he
  obtain ⟨x, hx, hk', _⟩ := FO L 0 (by simpa using he)
  have := List.find?_eq_none.1 hf x hx
  exact this (Qd.1 (hk'.symm.trans hke))
end SnM
namespace SnF
open Go Go.RowKit Go.ChangeMaps OctetS ShaS EntS WireS WireT Steps SnK SnT SnM
def P7 (L : List Sn) (sv : Int) (h : Hd) : List UInt8 := match first L sv h with | some x => x.h.sum | none => Cg
def gotT (L : List Sn) (sv : Int) (h : Hd) : ByteArray := match first L sv h with | some x => x.text | none => ⟨#[]⟩
def R6 (L : List Sn) (sv : Int) (h : Hd) : ByteArray := match first L sv h with | some x => x.sig | none => ⟨#[]⟩
def VL (L : List Sn) (sv : Int) (h : Hd) : Array Value := Dx (P7 L sv h) (gotT L sv h) (R6 L sv h)
theorem Pn (L : List Sn) (sv : Int) (h : Hd) : RI L sv h = .tuple #[.agg (VL L sv h), .bool (first L sv h).isSome] := by
 unfold RI VL P7 gotT R6
 cases first L sv h <;> rfl
theorem RQ {L : List Sn} {sv : Int} {h : Hd} (hw : ∀ x ∈ L, WfH x.sv x.h) : (P7 L sv h).length = 32 := by
 unfold P7
 cases hf : first L sv h with
 | none => rfl
 | some x => exact (hw x (List.mem_of_find?_eq_some hf)).sum
theorem Oj {sm : List UInt8} (h : sm.length = 32) (t s : ByteArray) : (Dx sm t s)[32]? = some (.string t) := by
 unfold Dx
 rw [List.getElem?_toArray, List.getElem?_append_right (by rw [AZ]; omega), AZ, h]
 rfl
theorem Qv {sm : List UInt8} (h : sm.length = 32) (t s : ByteArray) : (Dx sm t s)[33]? = some (.string s) := by
 unfold Dx
 rw [List.getElem?_toArray, List.getElem?_append_right (by rw [AZ]; omega), AZ, h]
 rfl
theorem First_ok (w : World) (S m : Nat) (bv : Value) (L : List Sn) (sv : Int) (h : Hd) (hs : SnAt w S m bv L) (hk : WfH sv h) :
 Calls Tryz.prog 13 #[.pointer (some ⟨S, 0, none⟩), .int .i64 sv, .string (bsOf h.room), .int .i64 h.ep, .int .i64 h.ix] w fun e w' => e = .returned (.tuple #[.string (gotT L sv h), .bool (first L sv h).isSome]) ∧ Below w.heap.size w w' := by
 have hlk := look_ok hs.mp hs.wf hs.uniq hk
 rw [Pn] at hlk
 have hM := RQ (sv := sv) (h := h) hs.wf
 obtain ⟨G, hG⟩ := nXe (VL L sv h)
 have hGn : G.size = 34 := by rw [hG]; exact NI hM _ _
 have HGS := lh (show (Tryz.prog.info? 79).map (·.size) = some G.size by rw [hGn]; kernel_rfl)
 have HGN := lh hGn
 have HGO := lh (show G.all (·.oneCell') = true by rw [hG]; exact Nc _ _ _)
 have Vo := lh (show G[32]? = some (.string (gotT L sv h)) by rw [hG]; exact Oj hM _ _)
 rw [← hG] at hlk
 unfold NE Eo at hlk
 obtain ⟨T, hT⟩ := nXe (gotT L sv h)
 obtain ⟨b, hb⟩ := nXe ((first L sv h).isSome)
 rw [← hT] at Vo ⊢
 rw [← hb] at hlk ⊢
 obtain ⟨k0, f0⟩ := AA hs.blk
 have HLK := lh hlk
 clear hG hGn hT hb hM hs hk hlk
 go_enter func13, ntmps13
 have hlk := HLK.out
 go_wp2_with (refine AC rfl _ _ _ rfl w.heap.size G rfl rfl _ _ (AL _ _) HGS.out (by rw [HGN.out]; rfl) HGO.out ?_)
 intro wf hwf
 have hb1 : Below w.heap.size w wf := by rw [hwf.out]; exact AQ ((Below.refl _ w).alloc nR _) nR _
 have c32 : wf.cell? ⟨w.heap.size, 32, none⟩ = some (.string T) := by rw [hwf.out]; exact (AO (AR (AL _ _))).trans Vo.out
 have HB1 := lh hb1
 clear hwf hb1 hlk k0 f0
 go_wp2
 go_ret2
 exact ⟨rfl, HB1.out⟩
theorem RJ {w : World} {m : Nat} {L : List Sn} (hm : w.heap[m]? = some (.map (M6 L) L.length)) (ty : TypeId) : (Builtin.len_ #[71] ty #[.map (some m)]).run Tryz.prog w = .ok (.int .i64 L.length) w := by
 have ht : Tryz.prog.underlying 71 = some (.map 77 79) := by kernel_rfl
 simp [Builtin.len_, run_underlying ht, MapKept.run_getObj_map hm, goInt, Result.andThen, SA]
theorem Len_ok (w : World) (S m : Nat) (bv : Value) (L : List Sn) (hs : SnAt w S m bv L) (hl : L.length ≤ 100000) :
 Calls Tryz.prog 10 #[.pointer (some ⟨S, 0, none⟩)] w fun e w' => e = .returned (.int .i64 L.length) ∧ w = w' := by
 obtain ⟨k0, f0⟩ := AA hs.blk
 have hlen := RJ hs.mp
 clear hs
 go_enter func10, ntmps10
 go_wp2
 go_ret
 exact ⟨rfl, rfl⟩
end SnF
end Go.Proofs.YtceiajepcokacaaGreatDoor
