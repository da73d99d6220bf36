/-
  WHAT IS PROVED: contracts of functions, and plain laws. Condition: what each theorem names.
-/
import Derived.Test.YtadofbbpfgmclaaGreatDoorS0
import Derived.Test.YtadofbbpfgmclaaGreatDoorZTBH13
import Derived.Test.YtadofbbpfgmclaaGreatDoorZTBH14
set_option linter.unusedVariables false
set_option linter.unusedSimpArgs false
set_option maxRecDepth 100000
set_option maxHeartbeats 4000000
namespace Go.Proofs.YtadofbbpfgmclaaGreatDoor
open Go.Proofs.Tryz hiding parts
namespace HdT
open Go Go.RowKit Go.Shelf OctetS IdentS EntS OctP OctQ OctG IdentP EntP EventC ShaA Steps KeyA KeyS KeyK TreeA WireT
theorem sl_of {p : Array Value} {r : ByteArray} {ep ix : Int} {sm : List UInt8} {s : ByteArray} (h : HdP p r ep ix sm s) {W : World} {B : Nat} {t : TypeId} (hb : W.heap[B]? = some (.cells p t (0, 0))) : Sl W (.slice (some ⟨B, 3, none⟩) 32 32) 1 sm.length (byV sm) := by
 rw [h.len]
 refine ⟨by rw [Ae, h.len], .inr ⟨_, 32, rfl, Nat.le_refl _, by unfold maxLen; omega, fun j u hu => ?_⟩⟩
 rw [Addr.add_mid, AO hb]
 exact h.cp j u hu
theorem P_Check (w : World) (p : Array Value) (r : ByteArray) (ep ix : Int) (pv : List UInt8) (s : ByteArray) (hp : HdP p r ep ix pv s) (hv : Ag w) (hr : r.size ≤ 140737488351232) (hs : s.size ≤ maxLen) :
 Calls Tryz.prog 47 #[.agg p] w (RB (.int .i64 (Ci (Ck (hdOf r ep ix pv s)))) w) := WireC.h_Check w p r ep ix pv s hp hv hr hs
theorem hd_len {e : WireS.Hd} (h : HdS.Right e) (hp : e.sum.length = 32) : (HdS.text e).length ≤ 100000 := by
 obtain ⟨h1, h2⟩ := Ca.1 (h.fits hp)
 have h3 := EntX.F6 _ h2
 have h4 : (HdS.parts e).length = 5 := rfl
 have h5 := OctetS.CF (n := 5) (by omega)
 unfold HdS.text OctetS.list
 rw [List.length_append, h4]
 rw [h4] at h3
 omega
theorem P_Text (w : World) (p : Array Value) (r : ByteArray) (ep ix : Int) (pv : List UInt8) (s : ByteArray) (hp : HdP p r ep ix pv s) (hv : Ag w) (hr : r.size ≤ 140737488351232) (hs : s.size ≤ maxLen) :
 Calls Tryz.prog 21 #[.agg p] w (RB (.tuple #[.string (bsOf (HdS.textOf (hdOf r ep ix pv s))), .int .i64 (Ci (Ck (hdOf r ep ix pv s)))]) w) := by
 have hC := fun w hv => P_Check w p r ep ix pv s hp hv hr hs
 have p0 := hp.c0
 have p1 := hp.c1
 have p2 := hp.c2
 have hps := hp.size
 have hpi : (Tryz.prog.info? 29).map (·.size) = some 36 := by kernel_rfl
 rw [← hps] at hpi
 have HI := lh hpi
 clear hpi hps
 obtain ⟨w0, hw0⟩ := nXe (w.alloc (.cells p 29))
 have hb0 : Below w.heap.size w w0 := by rw [hw0]; exact ((Below.refl _ w).alloc nR _)
 have hx0 : w0.heap[w.heap.size]? = some (.cells p 29 (0, 0)) := by rw [hw0]; exact AL _ _
 obtain ⟨HBL0, HW0⟩ := l2h hb0 hw0
 have lx0 := AB hx0
 obtain ⟨cx0, fx0⟩ := AJ hx0
 have HV0 := lh (hv.below hb0)
 unfold HdS.textOf
 unfold maxLen at hs
 obtain ⟨HP, Hx0⟩ := l2h hp hx0
 cases hchk : Ck (hdOf r ep ix pv s)
 ·skip
  rw [hchk] at hC
  have HC := lh hC
  clear hC hchk hr hs hp hb0 hv hw0
  go_enter func21, ntmps21
  go_wp2_with (first | (rw [← HW0.out]; refine wpList_load_row rfl _ _ rfl w.heap.size rfl _ p (0, 0) _ Hx0.out underlying29 rfl HI.out ?_) | fail)
  refine (HC.out w0 HV0.out).mono ?_
  rintro e' w1 ⟨rfl, hb⟩
  have HBL1 := tbB HBL0 hb
  have hx1 := (hb.block _ lx0).trans hx0
  have lx1 := AB hx1
  obtain ⟨cx1, fx1⟩ := AJ hx1
  have HV1 := lh (HV0.out.below hb)
  clear hb hx0 cx0 fx0
  unfold Ci
  go_wp2
  go_ret2
  exact ⟨rfl, HBL1.out⟩
 ·skip
  have hR := HdS.BV.1 hchk
  have h0 := hR.ep0
  have h1 := hR.ep1
  have h2 := hR.ix0
  have h3 := hR.ix1
  have hfit := hR.fits hp.len
  simp only [hdOf] at h0 h1 h2 h3
  obtain ⟨m, rfl⟩ : ∃ m : Nat, ep = m := ⟨ep.toNat, by omega⟩
  obtain ⟨j, rfl⟩ : ∃ j : Nat, ix = j := ⟨ix.toNat, by omega⟩
  have hparts : HdS.parts (hdOf r m j pv s) = [bsOf WireS.CY, r, bsOf (num m), bsOf (num j), bsOf pv].map bl := by
   simp [HdS.parts, hdOf, AU]
  have hfin : HdS.text (hdOf r m j pv s) = OctetS.list ([bsOf WireS.CY, r, bsOf (num m), bsOf (num j), bsOf pv].map bl) := by
   unfold HdS.text
   rw [hparts]
  rw [if_pos rfl, hfin]
  rw [hparts] at hfit
  have hL := fun w v h => Gd w v [bsOf WireS.CY, r, bsOf (num m), bsOf (num j), bsOf pv] h hfit
  rw [hchk] at hC
  obtain ⟨out, hout⟩ := nXe (bsOf (OctetS.list ([bsOf WireS.CY, r, bsOf (num m), bsOf (num j), bsOf pv].map bl)))
  obtain ⟨n1, hn1⟩ := nXe (bsOf (num m))
  obtain ⟨n2, hn2⟩ := nXe (bsOf (num j))
  obtain ⟨q, hq⟩ := nXe (bsOf pv)
  have hN1 := fun w => EW w m (by unfold Av; omega)
  have hN2 := fun w => EW w j (by unfold Av; omega)
  rw [← hn1] at hN1
  rw [← hn2] at hN2
  rw [← hout]
  rw [← hout, ← hn1, ← hn2, ← hq] at hL
  obtain ⟨HC, HN1, HN2, HL, HQ⟩ := l5h hC hN1 hN2 hL hq
  clear hC hN1 hN2 hL hn1 hn2 hout hfin hparts hfit hR hchk hq hr hs hp hb0 hv hw0
  go_enter func21, ntmps21
  go_wp2_with (first | (rw [← HW0.out]; refine wpList_load_row rfl _ _ rfl w.heap.size rfl _ p (0, 0) _ Hx0.out underlying29 rfl HI.out ?_) | fail)
  refine (HC.out w0 HV0.out).mono ?_
  rintro e' w1 ⟨rfl, hb⟩
  have HBL1 := tbB HBL0 hb
  have hx1 := (hb.block _ lx0).trans hx0
  have lx1 := AB hx1
  obtain ⟨cx1, fx1⟩ := AJ hx1
  have HV1 := lh (HV0.out.below hb)
  clear hb hx0 cx0 fx0
  unfold Ci
  go_wp2_with fail
  refine (HN1.out w1).mono ?_
  rintro e w2 ⟨rfl, hb⟩
  have HBL2 := tbB HBL1 hb
  have hx2 := (hb.block _ lx1).trans hx1
  have lx2 := AB hx2
  obtain ⟨cx2, fx2⟩ := AJ hx2
  have HV2 := lh (HV1.out.below hb)
  clear hb hx1 cx1 fx1
  go_wp2_with fail
  refine (HN2.out w2).mono ?_
  rintro e w3 ⟨rfl, hb⟩
  have HBL3 := tbB HBL2 hb
  have hx3 := (hb.block _ lx2).trans hx2
  have lx3 := AB hx3
  obtain ⟨cx3, fx3⟩ := AJ hx3
  have HV3 := lh (HV2.out.below hb)
  clear hb hx2 cx2 fx2
  go_wp2_with fail
  refine wp_region_noPanic ?_
  refine Wr.BJ (S := (fun W => W.heap[w.heap.size]? = some (.cells p 29 (0, 0)))) (K := []) (by kernel_rfl) ?_
  change Wr.Aq _ _ _ _ _ _ _ _ _ (World.drew w3)
  have hS0 : (World.drew w3).heap[w.heap.size]? = some (.cells p 29 (0, 0)) := hx3
  have hBL0 : Below w3.heap.size w3 (World.drew w3) := Bl.drew (Below.refl _ _)
  refine Wr.tkK (i := 0) (v := ?_) rfl (.inl ⟨by rfl, ?_⟩) hS0 ?_
  rotate_left
  ·intro wq hSw
   have q0 := hSw
   obtain ⟨qc0, qf0⟩ := AJ q0
   go_simp
   rfl
  simp only [Act.put, sxx]
  refine Wr.tkK (i := 1) (v := ?_) rfl (.inl ⟨by rfl, ?_⟩) hS0 ?_
  rotate_left
  ·intro wq hSw
   have q0 := hSw
   obtain ⟨qc0, qf0⟩ := AJ q0
   go_simp
   rfl
  simp only [Act.put, sxx]
  refine Wr.tkK (i := 2) (v := ?_) rfl (.inl ⟨by rfl, ?_⟩) hS0 ?_
  rotate_left
  ·intro wq hSw
   have q0 := hSw
   obtain ⟨qc0, qf0⟩ := AJ q0
   go_simp
   rfl
  simp only [Act.put, sxx]
  refine Wr.tkK (i := 3) (v := ?_) rfl (.inl ⟨by rfl, ?_⟩) hS0 ?_
  rotate_left
  ·intro wq hSw
   have q0 := hSw
   obtain ⟨qc0, qf0⟩ := AJ q0
   go_simp
   rfl
  simp only [Act.put, sxx]
  refine Wr.tkK (i := 4) (v := ?_) rfl (.inl ⟨by rfl, ?_⟩) hS0 ?_
  rotate_left
  ·intro wq hSw
   have q0 := hSw
   obtain ⟨qc0, qf0⟩ := AJ q0
   go_simp
   rfl
  simp only [Act.put, sxx]
  refine Wr.tkK (i := 5) (v := ?_) rfl (.inl ⟨by rfl, ?_⟩) hS0 ?_
  rotate_left
  ·intro wq hSw
   have q0 := hSw
   obtain ⟨qc0, qf0⟩ := AJ q0
   go_simp
   rfl
  simp only [Act.put, sxx]
  refine Wr.tkK (i := 6) (v := (.string q)) rfl (.inl ⟨by rfl, ?_⟩) hS0 ?_
  ·intro wq hSw
   have q0 := hSw
   obtain ⟨qc0, qf0⟩ := AJ q0
   have hcv := Bd wq 78 9 5 underlying78 underlying5 underlying9 _ _ (sl_of HP.out q0)
   rw [← HQ.out] at hcv
   go_simp
  simp only [Act.put, sxx]
  refine Wr.Ac (i := 7) (by kernel_rfl) ?_
  refine Au rfl (by rfl) (w' := (World.drew w3).alloc (.cells #[.string ⟨#[104, 101, 97, 100]⟩, .string r, .string n1, .string n2, .string q] 9)) (v := .slice (some ⟨(World.drew w3).heap.size, 0, none⟩) 5 5) (by go_simp; first | done | rfl) ?_
  obtain ⟨w6, hw_w6⟩ := nXe ((World.drew w3).alloc (.cells #[.string ⟨#[104, 101, 97, 100]⟩, .string r, .string n1, .string n2, .string q] 9))
  rw [← hw_w6]
  have hb_w6 : Below (World.drew w3).heap.size (World.drew w3) w6 := by rw [hw_w6]; exact bAx
  have hn_w6 : w6.heap[(World.drew w3).heap.size]? = some (.cells #[.string ⟨#[104, 101, 97, 100]⟩, .string r, .string n1, .string n2, .string q] 9 (0, 0)) := by rw [hw_w6]; exact Ah _ rfl
  have hS1 : w6.heap[w.heap.size]? = some (.cells p 29 (0, 0)) := (hb_w6.block _ (AB (hS0))).trans (hS0)
  have hBL1 : Below w3.heap.size w3 w6 := hBL0.trans (hb_w6.mono hBL0.size)
  clear hw_w6
  refine ⟨hS1, ?_⟩
  simp only [Act.put, sxx]
  refine Wr.Ac (i := 8) (by kernel_rfl) ?_
  refine BO rfl (by rfl) (by go_simp; all_goals (and_intros <;> rfl)) ?_
  refine (HL.out w6 _ (EventB.Dz hn_w6 rfl (by simp [maxLen]))).mono ?_
  rintro e w7 ⟨rfl, hb_w7⟩
  have hS2 : w7.heap[w.heap.size]? = some (.cells p 29 (0, 0)) := (hb_w7.block _ (AB (hS1))).trans (hS1)
  have hBL2 : Below w3.heap.size w3 w7 := hBL1.trans (hb_w7.mono hBL1.size)
  refine ⟨_, rfl, ?_, ?_⟩
  ·exact hS2
  simp only [Act.put, sxx]
  refine Wr.tkK (i := 9) (v := ?_) rfl (.inl ⟨by rfl, ?_⟩) hS2 ?_
  rotate_left
  ·intro wq hSw
   have q0 := hSw
   obtain ⟨qc0, qf0⟩ := AJ q0
   go_simp
   rfl
  simp only [Act.put, sxx]
  refine Wr.tkK (i := 10) (v := ?_) rfl (.inl ⟨by rfl, ?_⟩) hS2 ?_
  rotate_left
  ·intro wq hSw
   have q0 := hSw
   obtain ⟨qc0, qf0⟩ := AJ q0
   go_simp
   rfl
  simp only [Act.put, sxx]
  refine Wr.tkK (i := 11) (v := ?_) rfl (.inl ⟨by rfl, ?_⟩) hS2 ?_
  rotate_left
  ·intro wq hSw
   have q0 := hSw
   obtain ⟨qc0, qf0⟩ := AJ q0
   go_simp
   rfl
  simp only [Act.put, sxx]
  refine Wr.tkK (i := 12) (v := ?_) rfl (.inl ⟨by rfl, ?_⟩) hS2 ?_
  rotate_left
  ·intro wq hSw
   have q0 := hSw
   obtain ⟨qc0, qf0⟩ := AJ q0
   go_simp
   rfl
  simp only [Act.put, sxx]
  refine Wr.Ai (by kernel_rfl) (NoPanic.normal ?_) _
  go_wp2
  go_ret2
  exact ⟨rfl, HBL3.out.trans (hBL2.mono HBL3.out.size)⟩
def ofA (r : ByteArray) (ep ix : Int) (x : Ent) : Array Value := if EntS.A9 x = true then hdA r ep ix (EntX.sumE x).l ⟨#[]⟩ else hdZ
theorem cells32 (C : Array Value) (h : C.size = 32) : ∃ c0 c1 c2 c3 c4 c5 c6 c7 c8 c9 c10 c11 c12 c13 c14 c15 c16 c17 c18 c19 c20 c21 c22 c23 c24 c25 c26 c27 c28 c29 c30 c31 : Value, C = #[c0, c1, c2, c3, c4, c5, c6, c7, c8, c9, c10, c11, c12, c13, c14, c15, c16, c17, c18, c19, c20, c21, c22, c23, c24, c25, c26, c27, c28, c29, c30, c31] := by
 obtain ⟨l⟩ := C
 have hl : l.length = 32 := h
 match l, hl with
 | [c0, c1, c2, c3, c4, c5, c6, c7, c8, c9, c10, c11, c12, c13, c14, c15, c16, c17, c18, c19, c20, c21, c22, c23, c24, c25, c26, c27, c28, c29, c30, c31], _ => exact ⟨_, _, _, _, _, _, _, _, _, _, _, _, _, _, _, _, _, _, _, _, _, _, _, _, _, _, _, _, _, _, _, _, rfl⟩
theorem built_hd (r : ByteArray) (ep ix : Int) (X : H32) (C Y : Array Value) (hC : C = X.A) (hY : Y = hdA r ep ix X.l ⟨#[]⟩) : Tryz.prog.built 29 [(0, .string r), (1, .int .i64 ep), (2, .int .i64 ix), (3, .agg C)] = some Y := by
 have hY2 : Y = (([.string r, .int .i64 ep, .int .i64 ix] ++ C.toList ++ [.string ⟨#[]⟩] : List Value)).toArray := by
  rw [hY, hC]
  rfl
 obtain ⟨c0, c1, c2, c3, c4, c5, c6, c7, c8, c9, c10, c11, c12, c13, c14, c15, c16, c17, c18, c19, c20, c21, c22, c23, c24, c25, c26, c27, c28, c29, c30, c31, hc⟩ := cells32 C (by rw [hC]; exact X.size)
 rw [hY2, hc]
 clear hY2 hc hC hY X Y C
 change _ = _
 kernel_rfl
theorem P_Of (w : World) (p : Array Value) (r : ByteArray) (ep ix : Int) (pv : List UInt8) (e s : ByteArray) (hp : EntP p r ep ix pv e s) (hv : Ag w) (hk : Al w) (hr : r.size ≤ 140737488351232) (he : e.size ≤ maxLen) (hs : s.size ≤ maxLen) :
 Calls Tryz.prog 24 #[.agg p] w (RB (.tuple #[.agg (ofA r ep ix (Bc r ep ix pv e s)), .int .i64 (Ci (EntS.A9 (Bc r ep ix pv e s)))]) w) := by
 have hS := fun w hv hk => EntX.Eo w p r ep ix pv e s hp hv hk hr he hs
 have hps := hp.size
 have hpi : (Tryz.prog.info? 51).map (·.size) = some 37 := by kernel_rfl
 rw [← hps] at hpi
 have HI := lh hpi
 have p0 := hp.c0
 have p1 := hp.c1
 have p2 := hp.c2
 unfold ofA
 obtain ⟨x, hx⟩ := nXe (Bc r ep ix pv e s)
 rw [← hx] at hS ⊢
 obtain ⟨X, hX⟩ := nXe (EntX.sumE x)
 obtain ⟨C, hC⟩ := nXe (X.A)
 rw [← hX, ← hC] at hS
 have HCS : Hid ((Tryz.prog.info? 27).map (·.size) = some C.size) := lh (by rw [hC]; exact X.info)
 have HCN : Hid (32 = C.size) := lh (by rw [hC]; exact X.size.symm)
 have HCO : Hid (C.all (·.oneCell') = true) := lh (by rw [hC]; exact X.one)
 obtain ⟨Z, hZ⟩ := nXe (hdZ)
 have HLIT : Hid (zq2 Z) := lh (by rw [hZ]; unfold zq2; kernel_rfl)
 have HZN : Hid (Z.size = 36) := lh (by rw [hZ]; rfl)
 have HZS : Hid ((Tryz.prog.info? 29).map (·.size) = some Z.size) := lh (by rw [HZN.out]; kernel_rfl)
 have HZO : Hid (Z.all (·.oneCell') = true) := lh (by rw [hZ]; exact BI _ _ _ _ _)
 obtain ⟨Y, hY⟩ := nXe (hdA r ep ix X.l ⟨#[]⟩)
 have hYn : Y.size = 36 := by rw [hY]; exact DL X.len
 have HYS : Hid ((Tryz.prog.info? 29).map (·.size) = some Y.size) := lh (by rw [hYn]; kernel_rfl)
 have HYN : Hid (Z.size = Y.size) := lh (by rw [hYn]; exact HZN.out)
 have HYO : Hid (Y.all (·.oneCell') = true) := lh (by rw [hY]; exact BI _ _ _ _ _)
 have HYB : Hid (Tryz.prog.built 29 [(0, .string r), (1, .int .i64 ep), (2, .int .i64 ix), (3, .agg C)] = some Y) := lh (built_hd r ep ix X C Y hC hY)
 obtain ⟨w0, hw0⟩ := nXe ((w.alloc (.cells p 51)).alloc (.cells Z 29))
 have hb0 : Below w.heap.size w w0 := by rw [hw0]; exact ((Below.refl _ w).alloc nR _).alloc (by simp) _
 have HX0 := lh (show w0.heap[w.heap.size]? = some (.cells p 51 (0, 0)) by rw [hw0]; exact Ao (AL _ _) _)
 have HZ0 := lh (show w0.heap[w.heap.size + 1]? = some (.cells Z 29 (0, 0)) by rw [hw0]; exact Ah _ (by simp))
 obtain ⟨HBL0, HW0, HV0, HK0, HS⟩ := l5h hb0 hw0 (hv.below hb0) (hk.below hb0) hS
 have hres : (if EntS.A9 x = true then hdA r ep ix (EntX.sumE x).l ⟨#[]⟩ else hdZ) = (if EntS.A9 x = true then Y else Z) := by rw [hY, hX, hZ]
 rw [hres]
 obtain ⟨c, hc⟩ := nXe (EntS.A9 x)
 rw [← hc] at HS ⊢
 obtain ⟨P0, P1, P2⟩ := l3h p0 p1 p2
 clear hS hps hpi p0 p1 p2 hX hC hZ hY hYn hw0 hb0 hv hk hr he hs hp hres hc hx
 cases c
 ·rw [if_neg (by simp)]
  have HS := lh (show ∀ w, Ag w → Al w → Calls Tryz.prog 50 #[.agg p] w (RB (.tuple #[.agg C, .int .i64 2]) w) from HS.out)
  change Calls _ _ _ _ (RB (.tuple #[.agg Z, .int .i64 2]) w)
  go_enter func24, ntmps24
  go_wp2_with (first | (rw [HLIT.out, ← HW0.out]; refine wpList_load_row rfl _ _ rfl w.heap.size rfl _ p (0, 0) _ HX0.out underlying51 rfl HI.out ?_) | fail)
  refine (HS.out w0 HV0.out HK0.out).mono ?_
  rintro e' w1 ⟨rfl, hb⟩
  have HBL1 := tbB HBL0 hb
  have HX1 := kpB hb HX0
  have HZ1 := kpB hb HZ0
  have hlz := AB HZ1.out
  clear hb
  go_wp2_with (first | (refine AC rfl _ _ _ rfl w1.heap.size C rfl rfl _ _ (AL _ _) HCS.out (by rw [← HCN.out]; rfl) HCO.out ?_) | fail)
  intro u1 hu1
  have hb : Below w1.heap.size w1 u1 := by rw [hu1.out]; exact AQ bAx nR _
  have hy : u1.heap[w1.heap.size]? = some (.cells C 27 (0, 0)) := by rw [hu1.out]; exact AR (AL _ _)
  clear hu1
  obtain ⟨w2, hww⟩ : ∃ w', w' = u1 := ⟨_, rfl⟩
  rw [← hww] at hb hy ⊢
  clear hww
  have HBL2 := tbB HBL1 hb
  have hx2 := (hb.block _ (AB HX1.out)).trans HX1.out
  have HZ2 := kpB hb HZ1
  have HC2 := lh hy
  have k0 : w2.cell? ⟨w.heap.size, 0, none⟩ = some (.string r) := by rw [AO hx2]; exact P0.out
  have k1 : w2.cell? ⟨w.heap.size, 1, none⟩ = some (.int .i64 ep) := by rw [AO hx2]; exact P1.out
  have k2 : w2.cell? ⟨w.heap.size, 2, none⟩ = some (.int .i64 ix) := by rw [AO hx2]; exact P2.out
  clear hb hy hx2
  go_wp2_with (first | (refine AC rfl _ _ _ rfl (w.heap.size + 1) Z rfl (by rw [← HLIT.out]; rfl) _ _ HZ2.out HZS.out rfl HZO.out ?_) | fail)
  intro wf hwf
  go_wp2
  refine bodyPost_ret (v := .tuple #[.agg Z, .int .i64 2]) (WireT.AV rfl _ _ (w.heap.size + 1) 29 Z (0, 0) _ rfl (by rw [hwf.out]; exact AR HZ2.out) underlying29 rfl HZS.out rfl) rfl ⟨rfl, by rw [hwf.out]; exact AQ HBL2.out (by omega) _⟩
 ·rw [if_pos rfl]
  have HS := lh (show ∀ w, Ag w → Al w → Calls Tryz.prog 50 #[.agg p] w (RB (.tuple #[.agg C, .int .i64 0]) w) from HS.out)
  change Calls _ _ _ _ (RB (.tuple #[.agg Y, .int .i64 0]) w)
  go_enter func24, ntmps24
  go_wp2_with (first | (rw [HLIT.out, ← HW0.out]; refine wpList_load_row rfl _ _ rfl w.heap.size rfl _ p (0, 0) _ HX0.out underlying51 rfl HI.out ?_) | fail)
  refine (HS.out w0 HV0.out HK0.out).mono ?_
  rintro e' w1 ⟨rfl, hb⟩
  have HBL1 := tbB HBL0 hb
  have HX1 := kpB hb HX0
  have HZ1 := kpB hb HZ0
  have hlz := AB HZ1.out
  clear hb
  go_wp2_with (first | (refine AC rfl _ _ _ rfl w1.heap.size C rfl rfl _ _ (AL _ _) HCS.out (by rw [← HCN.out]; rfl) HCO.out ?_) | fail)
  intro u1 hu1
  have hb : Below w1.heap.size w1 u1 := by rw [hu1.out]; exact AQ bAx nR _
  have hy : u1.heap[w1.heap.size]? = some (.cells C 27 (0, 0)) := by rw [hu1.out]; exact AR (AL _ _)
  clear hu1
  obtain ⟨w2, hww⟩ : ∃ w', w' = u1 := ⟨_, rfl⟩
  rw [← hww] at hb hy ⊢
  clear hww
  have HBL2 := tbB HBL1 hb
  have hx2 := (hb.block _ (AB HX1.out)).trans HX1.out
  have HZ2 := kpB hb HZ1
  have HC2 := lh hy
  have k0 : w2.cell? ⟨w.heap.size, 0, none⟩ = some (.string r) := by rw [AO hx2]; exact P0.out
  have k1 : w2.cell? ⟨w.heap.size, 1, none⟩ = some (.int .i64 ep) := by rw [AO hx2]; exact P1.out
  have k2 : w2.cell? ⟨w.heap.size, 2, none⟩ = some (.int .i64 ix) := by rw [AO hx2]; exact P2.out
  clear hb hy hx2
  go_wp2_with (first | (refine wpList_load_row rfl _ _ rfl w1.heap.size rfl _ C (0, 0) _ HC2.out underlying27 rfl HCS.out ?_) | (refine EntQ.Cg rfl 29 _ rfl Y (by first | exact HYB.out | (go_simp; exact HYB.out)) ?_) | (refine AC rfl _ _ _ rfl (w.heap.size + 1) Y rfl rfl _ _ HZ2.out HYS.out HYN.out HYO.out ?_) | fail)
  intro wf hwf
  go_wp2
  refine bodyPost_ret (v := .tuple #[.agg Y, .int .i64 0]) (WireT.AV rfl _ _ (w.heap.size + 1) 29 Y (0, 0) _ rfl (by rw [hwf.out]; exact AR HZ2.out) underlying29 rfl HYS.out rfl) rfl ⟨rfl, by rw [hwf.out]; exact AQ HBL2.out (by omega) _⟩
theorem P_Sign (w : World) (R : Nat) (sd : ByteArray) (h nx : Nat) (v : Value) (x : H32) (hsd : sd.size ≤ 64) (hh : h ≤ 7) (hn : nx < 2 ^ h) (hr0 : w.heap[R]? = some (.cells (Bu sd h nx v x) 71 (0, 0)))
 (hv0 : Sl w v 32 (2 ^ h) ((Bv (bl sd) (2 ^ h)).flatMap H32.cs)) (hvb : ∀ k, v.ownBlock = some k → k < w.heap.size) (hk : Al w)
 (p : Array Value) (r : ByteArray) (ep ix : Int) (pv : List UInt8) (s : ByteArray) (hp : HdP p r ep ix pv s) (hv : Ag w) (hr : r.size ≤ 140737488351232) (hs : s.size ≤ maxLen) (hchk : Ck (hdOf r ep ix pv s) = true) :
 Calls Tryz.prog 19 #[.pointer (some ⟨R, 0, none⟩), .agg p] w fun e' w' => e' = .returned (.tuple #[.agg (hdA r ep ix pv (bsOf (Di (bl sd) h nx (HdS.text (hdOf r ep ix pv s))))), .int .i64 0]) ∧
  w'.heap[R]? = some (.cells (Bu sd h (nx + 1 : Nat) v x) 71 (0, 0)) ∧ Ext (fun k => k = R) w w' := by
 have hT := fun w hv => P_Text w p r ep ix pv s hp hv hr hs
 unfold HdS.textOf at hT
 rw [hchk] at hT
 rw [if_pos rfl] at hT
 have hR := HdS.BV.1 hchk
 have hlen := hd_len hR hp.len
 have hps := hp.size
 have H35 := lh hp.c35
 have hpi : (Tryz.prog.info? 29).map (·.size) = some 36 := by kernel_rfl
 obtain ⟨Tb, hT2⟩ := nXe (bsOf (HdS.text (hdOf r ep ix pv s)))
 have hTs : Tb.size ≤ 140737488355328 := by rw [hT2, AY]; omega
 have hTb : bl Tb = HdS.text (hdOf r ep ix pv s) := by rw [hT2, AU]
 rw [← hT2] at hT
 rw [← hTb]
 have hS := fun w' (hb : Below w.heap.size w w') => KeyM.Fb w' R sd Tb h nx v x hsd hTs hh hn ((hb.block _ (AB hr0)).trans hr0) (hv0.below hb) (hk.below hb)
 obtain ⟨G, hG⟩ := nXe (bsOf (Di (bl sd) h nx (bl Tb)))
 rw [← hG] at hS ⊢
 obtain ⟨E, hE⟩ := nXe (hdA r ep ix pv G)
 have hEp : HdP E r ep ix pv G := ⟨hE, hp.len⟩
 have hset : p.setIfInBounds 35 (.string G) = E := by rw [hp.eq, hE, hd_sig _ _ _ hp.len]
 have HES : Hid ((Tryz.prog.info? 29).map (·.size) = some E.size) := lh (by rw [hEp.size]; exact hpi)
 have HEN : Hid (36 = E.size) := lh hEp.size.symm
 have HEO : Hid (E.all (·.oneCell') = true) := lh (by rw [hE]; exact BI _ _ _ _ _)
 rw [← hE]
 obtain ⟨Z, hZ⟩ := nXe (zl2)
 have HLIT : Hid (zq2 Z) := lh hZ.symm
 have HZN : Hid (Z.size = 36) := lh (by rw [hZ]; rfl)
 have hlR := AB hr0
 obtain ⟨w0, hw0⟩ := nXe ((w.alloc (.cells p 29)).alloc (.cells Z 29))
 have hb0 : Below w.heap.size w w0 := by rw [hw0]; exact ((Below.refl _ w).alloc nR _).alloc (by simp) _
 have HX0 := lh (show w0.heap[w.heap.size]? = some (.cells p 29 (0, 0)) by rw [hw0]; exact Ao (AL _ _) _)
 have HZ0 := lh (show w0.heap[w.heap.size + 1]? = some (.cells Z 29 (0, 0)) by rw [hw0]; exact Ah _ (by simp))
 obtain ⟨HBL0, HW0, HV0, HT, HS⟩ := l5h hb0 hw0 (hv.below hb0) hT hS
 have HI := lh (show (Tryz.prog.info? 29).map (·.size) = some p.size by rw [hps]; exact hpi)
 have Hset := lh hset
 clear hT hS hT2 hchk hR hr hs hp hb0 hv hw0 hpi hps hG hE hEp hset hTb hTs hlen hv0 hr0 hk hvb hZ
 go_enter func19, ntmps19
 go_wp2_with (first | (rw [HLIT.out, ← HW0.out]; refine wpList_load_row rfl _ _ rfl w.heap.size rfl _ p (0, 0) _ HX0.out underlying29 rfl HI.out ?_) | fail)
 refine (HT.out w0 HV0.out).mono ?_
 rintro e' w1 ⟨rfl, hb⟩
 have HBL1 := tbB HBL0 hb
 have HX1 := kpB hb HX0
 have HZ1 := kpB hb HZ0
 clear hb
 unfold Ci
 go_wp2_with fail
 refine (HS.out w1 HBL1.out).mono ?_
 rintro e' w2 ⟨rfl, hr2, hE2⟩
 have hx2 := hE2.CS HX1.out (fun h => by omega)
 have HX2 := lh hx2
 have HZ2 := lh (hE2.CS HZ1.out (fun h => by omega))
 have HR2 := lh hr2
 have HE2 := lh ((Ext.of_below (S := fun k => k = R) HBL1.out).trans hE2)
 have c35 : w2.cell? ⟨w.heap.size, 35, none⟩ = some (.string s) := by rw [AO hx2]; exact H35.out
 have f35 : w2.frozen? ⟨w.heap.size, 35, none⟩ = false := BK hx2
 have HX3 : Hid ((w2.setCell ⟨w.heap.size, 35, none⟩ (.string G)).heap[w.heap.size]? = some (.cells E 29 (0, 0))) := lh (by rw [← Hset.out]; exact heap_setCell_same hx2 _)
 have HZ3 : Hid ((w2.setCell ⟨w.heap.size, 35, none⟩ (.string G)).heap[w.heap.size + 1]? = some (.cells Z 29 (0, 0))) := lh ((AX _ (by omega)).trans HZ2.out)
 have HR3 : Hid ((w2.setCell ⟨w.heap.size, 35, none⟩ (.string G)).heap[R]? = some (.cells (Bu sd h (nx + 1 : Nat) v x) 71 (0, 0))) := lh ((AX _ (by omega)).trans HR2.out)
 have HE3 : Hid (Ext (fun k => k = R) w (w2.setCell ⟨w.heap.size, 35, none⟩ (.string G))) := lh (HE2.out.setCell (p := ⟨w.heap.size, 35, none⟩) (.inr nR) _)
 clear hr2 hE2 hx2
 go_wp2_with (first | (refine wpList_load_row rfl _ _ rfl w.heap.size rfl _ E (0, 0) _ HX3.out underlying29 rfl HES.out ?_) | (refine AC rfl _ _ _ rfl (w.heap.size + 1) E rfl rfl _ _ HZ3.out HES.out (by rw [HZN.out]; exact HEN.out) HEO.out ?_) | fail)
 intro wf hwf
 go_wp2
 refine bodyPost_ret (v := .tuple #[.agg E, .int .i64 0]) (WireT.AV rfl _ _ (w.heap.size + 1) 29 E (0, 0) _ rfl (by rw [hwf.out]; exact AR HZ3.out) underlying29 rfl HES.out rfl) rfl ⟨rfl, ?_, ?_⟩
 ·rw [hwf.out, CO _ (by omega)]
  exact HR3.out
 ·rw [hwf.out]
  exact HE3.out.grown (row := some (w.heap.size + 1)) (EntW.F3 _ _ _) (fun k hk => by cases hk; exact .inr (by omega))
end HdT
namespace BkR
open Go Go.RowKit Go.Shelf Steps RowsX Lift KeyA TreeA BookA BookB
def Cq (sv fr to hi : Int) : Bool := decide (0 ≤ sv) && (decide (sv ≤ 63) && (decide (0 ≤ hi) && (decide (hi ≤ 7) && (decide (0 ≤ fr) && (decide (fr ≤ to) && decide (to ≤ 1099511627776))))))
def D6 (g : Gr') : Bool := Cq g.sv g.fr g.to g.hi
theorem rightB_iff {g : Gr'} : D6 g = true ↔ g.Right := by
 unfold D6 Cq
 simp only [Bool.and_eq_true, decide_eq_true_eq]
 exact ⟨fun ⟨a, b, c, d, e, f, h⟩ => ⟨a, b, e, f, h, c, d⟩, fun h => ⟨h.s0, h.s1, h.h0, h.h1, h.f0, h.f1, h.t1⟩⟩
def apartV (s1 t1 s2 f2 : Int) : Bool := decide (s1 < s2) || ((s1 == s2) && decide (t1 < f2))
def FZ (a b : Gr') : Bool := apartV a.sv a.to b.sv b.fr
theorem right_casesP (sv fr to hi : Int) : (sv < 0 ∧ Cq sv fr to hi = false)
 ∨ (0 ≤ sv ∧ 63 < sv ∧ Cq sv fr to hi = false)
 ∨ (0 ≤ sv ∧ sv ≤ 63 ∧ hi < 0 ∧ Cq sv fr to hi = false)
 ∨ (0 ≤ sv ∧ sv ≤ 63 ∧ 0 ≤ hi ∧ 7 < hi ∧ Cq sv fr to hi = false)
 ∨ (0 ≤ sv ∧ sv ≤ 63 ∧ 0 ≤ hi ∧ hi ≤ 7 ∧ fr < 0 ∧ Cq sv fr to hi = false)
 ∨ (0 ≤ sv ∧ sv ≤ 63 ∧ 0 ≤ hi ∧ hi ≤ 7 ∧ 0 ≤ fr ∧ to < fr ∧ Cq sv fr to hi = false)
 ∨ (0 ≤ sv ∧ sv ≤ 63 ∧ 0 ≤ hi ∧ hi ≤ 7 ∧ 0 ≤ fr ∧ fr ≤ to ∧ 1099511627776 < to ∧ Cq sv fr to hi = false)
 ∨ (0 ≤ sv ∧ sv ≤ 63 ∧ 0 ≤ hi ∧ hi ≤ 7 ∧ 0 ≤ fr ∧ fr ≤ to ∧ to ≤ 1099511627776 ∧ Cq sv fr to hi = true) := by
 unfold Cq
 by_cases h0 : 0 ≤ sv
 ·skip
  by_cases h1 : sv ≤ 63
  ·skip
   by_cases h2 : 0 ≤ hi
   ·skip
    by_cases h3 : hi ≤ 7
    ·skip
     by_cases h4 : 0 ≤ fr
     ·skip
      by_cases h5 : fr ≤ to
      ·skip
       by_cases h6 : to ≤ 1099511627776
       ·skip
        exact .inr (.inr (.inr (.inr (.inr (.inr (.inr (⟨h0, h1, h2, h3, h4, h5, h6, by simp [h0, h1, h2, h3, h4, h5, h6]⟩)))))))
       ·exact .inr (.inr (.inr (.inr (.inr (.inr (.inl ⟨h0, h1, h2, h3, h4, h5, by omega, by simp [h6]⟩))))))
      ·exact .inr (.inr (.inr (.inr (.inr (.inl ⟨h0, h1, h2, h3, h4, by omega, by simp [h5]⟩)))))
     ·exact .inr (.inr (.inr (.inr (.inl ⟨h0, h1, h2, h3, by omega, by simp [h4]⟩))))
    ·exact .inr (.inr (.inr (.inl ⟨h0, h1, h2, by omega, by simp [h3]⟩)))
   ·exact .inr (.inr (.inl ⟨h0, h1, by omega, by simp [h2]⟩))
  ·exact .inr (.inl ⟨h0, by omega, by simp [h1]⟩)
 ·exact .inl ⟨by omega, by simp [h0]⟩
theorem right_ok (w : World) (g : Gr') : Calls Tryz.prog 109 #[.agg g.A] w (RB (.bool (D6 g)) w) := by
 unfold D6
 obtain ⟨p, hp⟩ := nXe (g.A)
 have p0 := g.c0
 have p1 := g.c1
 have p2 := g.c2
 have p3 := g.c3
 rw [← hp] at p0 p1 p2 p3 ⊢
 obtain ⟨sv, hsv⟩ := nXe (g.sv)
 obtain ⟨fr, hfr⟩ := nXe (g.fr)
 obtain ⟨to, hto⟩ := nXe (g.to)
 obtain ⟨hi, hhi⟩ := nXe (g.hi)
 rw [← hsv, ← hfr, ← hto, ← hhi]
 rw [← hsv] at p0
 rw [← hfr] at p1
 rw [← hto] at p2
 rw [← hhi] at p3
 clear hsv hfr hto hhi hp
 rcases right_casesP sv fr to hi with ⟨h0, hv⟩ | ⟨h0, h1, hv⟩ | ⟨h0, h1, h2, hv⟩ | ⟨h0, h1, h2, h3, hv⟩ | ⟨h0, h1, h2, h3, h4, hv⟩ | ⟨h0, h1, h2, h3, h4, h5, hv⟩ | ⟨h0, h1, h2, h3, h4, h5, h6, hv⟩ | ⟨h0, h1, h2, h3, h4, h5, h6, hv⟩
 ·rw [hv]
  clear hv
  have d0 : decide (sv < 0) = true := dT (by omega)
  go_enter func109, ntmps109
  go_wp2
  go_ret
  exact ⟨by first | rfl | simp_all, bAx⟩
 ·rw [hv]
  clear hv
  have d0 : decide (sv < 0) = false := dF (by omega)
  have d1 : decide (63 < sv) = true := dT (by omega)
  go_enter func109, ntmps109
  go_wp2
  go_ret
  exact ⟨by first | rfl | simp_all, bAx⟩
 ·rw [hv]
  clear hv
  have d0 : decide (sv < 0) = false := dF (by omega)
  have d1 : decide (63 < sv) = false := dF (by omega)
  have d2 : decide (hi < 0) = true := dT (by omega)
  go_enter func109, ntmps109
  go_wp2
  go_ret
  exact ⟨by first | rfl | simp_all, bAx⟩
 ·rw [hv]
  clear hv
  have d0 : decide (sv < 0) = false := dF (by omega)
  have d1 : decide (63 < sv) = false := dF (by omega)
  have d2 : decide (hi < 0) = false := dF (by omega)
  have d3 : decide (7 < hi) = true := dT (by omega)
  go_enter func109, ntmps109
  go_wp2
  go_ret
  exact ⟨by first | rfl | simp_all, bAx⟩
 ·rw [hv]
  clear hv
  have d0 : decide (sv < 0) = false := dF (by omega)
  have d1 : decide (63 < sv) = false := dF (by omega)
  have d2 : decide (hi < 0) = false := dF (by omega)
  have d3 : decide (7 < hi) = false := dF (by omega)
  have d4 : decide (0 ≤ fr) = false := dF (by omega)
  go_enter func109, ntmps109
  go_wp2
  go_ret
  exact ⟨by first | rfl | simp_all, bAx⟩
 ·rw [hv]
  clear hv
  have d0 : decide (sv < 0) = false := dF (by omega)
  have d1 : decide (63 < sv) = false := dF (by omega)
  have d2 : decide (hi < 0) = false := dF (by omega)
  have d3 : decide (7 < hi) = false := dF (by omega)
  have d4 : decide (0 ≤ fr) = true := dT (by omega)
  have d5 : decide (fr ≤ to) = false := dF (by omega)
  go_enter func109, ntmps109
  go_wp2
  go_ret
  exact ⟨by first | rfl | simp_all, bAx⟩
 ·rw [hv]
  clear hv
  have d0 : decide (sv < 0) = false := dF (by omega)
  have d1 : decide (63 < sv) = false := dF (by omega)
  have d2 : decide (hi < 0) = false := dF (by omega)
  have d3 : decide (7 < hi) = false := dF (by omega)
  have d4 : decide (0 ≤ fr) = true := dT (by omega)
  have d5 : decide (fr ≤ to) = true := dT (by omega)
  have d6 : decide (to ≤ 1099511627776) = false := dF (by omega)
  go_enter func109, ntmps109
  go_wp2
  go_ret
  exact ⟨by first | rfl | simp_all, bAx⟩
 ·rw [hv]
  clear hv
  have d0 : decide (sv < 0) = false := dF (by omega)
  have d1 : decide (63 < sv) = false := dF (by omega)
  have d2 : decide (hi < 0) = false := dF (by omega)
  have d3 : decide (7 < hi) = false := dF (by omega)
  have d4 : decide (0 ≤ fr) = true := dT (by omega)
  have d5 : decide (fr ≤ to) = true := dT (by omega)
  have d6 : decide (to ≤ 1099511627776) = true := dT (by omega)
  go_enter func109, ntmps109
  go_wp2
  go_ret
  exact ⟨by first | rfl | simp_all, bAx⟩
theorem apart_ok (w : World) (a b : Gr') : Calls Tryz.prog 110 #[.agg a.A, .agg b.A] w (RB (.bool (FZ a b)) w) := by
 unfold FZ apartV
 obtain ⟨p, hp⟩ := nXe (a.A)
 obtain ⟨q, hq⟩ := nXe (b.A)
 have p0 := a.c0
 have p2 := a.c2
 have q0 := b.c0
 have q1 := b.c1
 rw [← hp] at p0 p2 ⊢
 rw [← hq] at q0 q1 ⊢
 obtain ⟨s1, h1⟩ := nXe (a.sv)
 obtain ⟨t1, h2⟩ := nXe (a.to)
 obtain ⟨s2, h3⟩ := nXe (b.sv)
 obtain ⟨f2, h4⟩ := nXe (b.fr)
 rw [← h1, ← h2, ← h3, ← h4]
 rw [← h1] at p0
 rw [← h2] at p2
 rw [← h3] at q0
 rw [← h4] at q1
 clear h1 h2 h3 h4 hp hq
 obtain ⟨w0, hw0⟩ := nXe ((w.alloc (.cells p 47)).alloc (.cells q 47))
 have hb0 : Below w.heap.size w w0 := by rw [hw0]; exact bAx.alloc (by simp) _
 have hx0 : w0.heap[w.heap.size]? = some (.cells p 47 (0, 0)) := by rw [hw0]; exact Ao (AL _ _) _
 have hy0 : w0.heap[w.heap.size + 1]? = some (.cells q 47 (0, 0)) := by rw [hw0]; exact Ah _ (by simp)
 have c0 : w0.cell? ⟨w.heap.size, 0, none⟩ = some _ := (AO hx0).trans p0
 have c2 : w0.cell? ⟨w.heap.size, 2, none⟩ = some _ := (AO hx0).trans p2
 have e0 : w0.cell? ⟨w.heap.size + 1, 0, none⟩ = some _ := (AO hy0).trans q0
 have e1 : w0.cell? ⟨w.heap.size + 1, 1, none⟩ = some _ := (AO hy0).trans q1
 obtain ⟨HB0, HW0⟩ := l2h hb0 hw0
 clear hx0 hy0 hb0 hw0 p0 p2 q0 q1
 rcases Int.lt_trichotomy s1 s2 with h | h | h
 ·skip
  have d0 : decide (s1 < s2) = true := dT h
  rw [d0]
  go_enter func110, ntmps110
  go_wp2_with (first | (rw [← HW0.out]; skip) | fail)
  go_ret
  exact ⟨by first | rfl | simp_all, HB0.out⟩
 ·skip
  subst h
  have d0 : decide (s1 < s1) = false := dF (by omega)
  have d1 : (s1 == s1) = true := by simp
  rw [d0, d1]
  go_enter func110, ntmps110
  go_wp2_with (first | (rw [← HW0.out]; skip) | fail)
  go_ret
  exact ⟨by first | rfl | simp_all, HB0.out⟩
 ·skip
  have d0 : decide (s1 < s2) = false := dF (by omega)
  have d1 : (s1 == s2) = false := by simp; omega
  rw [d0, d1]
  go_enter func110, ntmps110
  go_wp2_with (first | (rw [← HW0.out]; skip) | fail)
  go_ret
  exact ⟨by first | rfl | simp_all, HB0.out⟩
end BkR
end Go.Proofs.YtadofbbpfgmclaaGreatDoor
