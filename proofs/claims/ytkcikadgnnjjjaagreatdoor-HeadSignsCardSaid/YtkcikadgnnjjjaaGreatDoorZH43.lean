/-
  WHAT IS PROVED: the reference's head of bytes, or none. what is signed of a head, its bytes, an entry's head, a head's signature, and how it is verified. how any entry, head, or deal is signed by any ring, by the program. whether any entry, head, or deal is verified by any book, by the document. Condition: what each theorem names.
-/
import Derived.Test.YtkcikadgnnjjjaaGreatDoorS0
import Derived.Test.YtkcikadgnnjjjaaGreatDoorZEHD13
import Derived.Test.YtkcikadgnnjjjaaGreatDoorZEHD23
import Derived.Test.YtkcikadgnnjjjaaGreatDoorZH42
set_option linter.unusedVariables false
set_option linter.unusedSimpArgs false
set_option maxRecDepth 100000
set_option maxHeartbeats 4000000
namespace Go.Proofs.YtkcikadgnnjjjaaGreatDoor.WireF
open Go Go.RowKit Go.Shelf OctetS IdentS EntS WireS OctG OctP OctQ OctA EventP EventC EntP WireT Steps Wr
open WireC (chkH_eq)
theorem r_Check (w : World) (p : Array Value) (r : ByteArray) (ep ix : Int) (pv : List UInt8) (s : ByteArray) (hp : HdP p r ep ix pv s) (hr : r.size ≤ 140737488351232) (hs : s.size ≤ maxLen) :
 Calls Tryz.prog 89 #[.agg p] w (RB (.int .i64 (whyOf (checkH (hdOf r ep ix pv s)))) w) := by
 unfold maxLen at hs
 rw [chkH_eq]
 obtain ⟨rn, hR⟩ := EvRC.room_at r hr
 obtain ⟨rb, hrb⟩ := nXe (roomB (bl r))
 rw [← hrb] at hR ⊢
 clear hrb
 obtain ⟨y, hy⟩ := nXe (whyOf (rb && (placeB ep && (placeB ix && decide (s.size ≤ 8192)))))
 rw [← hy]
 have Hy0 := lh hy
 clear hy
 have p0 := hp.c0
 have p1 := hp.c1
 have p2 := hp.c2
 have p35 := hp.c35
 obtain ⟨w0, hw0⟩ := nXe (w.alloc (.cells p 47))
 have hb0 : Below w.heap.size w w0 := by rw [hw0]; exact ((Below.refl _ w).alloc (Nat.le_refl _) _)
 have hx0 : w0.heap[w.heap.size]? = some (.cells p 47 (0, 0)) := by rw [hw0]; exact heap_new _ _
 have HBL0 := lh hb0
 have HW0 := lh hw0
 have lx0 := lt_row hx0
 obtain ⟨cx0, fx0⟩ := row_facts hx0
 have HR := lh hR
 clear hR hb0 hw0 hr hp
 have hcase : rb = false ∨ rb = true := by cases rb <;> simp
 rcases hcase with rfl | rfl
 all_goals
  go_enter Tryz.func89, Tryz.ntmps89
  go_wp2_with fail
  rw [← HW0.out]
  refine (HR.out w0).mono ?_
  rintro e w1 ⟨rfl, hb⟩
  have HBL1 := tbB HBL0 hb
  have hx1 := (hb.block _ lx0).trans hx0
  have lx1 := lt_row hx1
  obtain ⟨cx1, fx1⟩ := row_facts hx1
  clear hb hx0 cx0 fx0
 ·go_wp2
  go_ret
  exact ⟨by rw [Hy0.out]; rfl, HBL1.out⟩
 ·have hy' : (0 ≤ ep ∧ ep ≤ 4096 ∧ 0 ≤ ix ∧ ix ≤ 4096 ∧ s.size ≤ 8192 ∧ y = 0) ∨ (¬ (0 ≤ ep ∧ ep ≤ 4096 ∧ 0 ≤ ix ∧ ix ≤ 4096 ∧ s.size ≤ 8192) ∧ y = 2) := by
   rw [Hy0.out]
   unfold whyOf placeB
   simp only [Bool.true_and, Bool.and_eq_true, decide_eq_true_eq]
   by_cases h : 0 ≤ ep ∧ ep ≤ 4096 ∧ 0 ≤ ix ∧ ix ≤ 4096 ∧ s.size ≤ 8192
   ·rw [if_pos ⟨⟨h.1, h.2.1⟩, ⟨h.2.2.1, h.2.2.2.1⟩, h.2.2.2.2⟩]
    exact .inl ⟨h.1, h.2.1, h.2.2.1, h.2.2.2.1, h.2.2.2.2, rfl⟩
   ·rw [if_neg (fun h' => h ⟨h'.1.1, h'.1.2, h'.2.1.1, h'.2.1.2, h'.2.2⟩)]
    exact .inr ⟨h, rfl⟩
  have Hy := lh hy'
  clear hy'
  go_wp2
  all_goals
   go_ret
   refine ⟨?_, HBL1.out⟩
   have hy := Hy.out
   first
        | (obtain rfl : y = 0 := by omega
           rfl)
        | (obtain rfl : y = 2 := by omega
           rfl)
end Go.Proofs.YtkcikadgnnjjjaaGreatDoor.WireF
namespace Go.Proofs.YtkcikadgnnjjjaaGreatDoor.HdT
open Go Go.RowKit Go.Shelf OctetS IdentS EntS OctP OctQ OctG IdentP EntP EventC ShaA Steps KeyA KeyS KeyK TreeA WireT
theorem sl_of {p : Array Value} {r : ByteArray} {ep ix : Int} {sm : List UInt8} {s : ByteArray} (h : HdP p r ep ix sm s) {W : World} {B : Nat} {t : TypeId} (hb : W.heap[B]? = some (.cells p t (0, 0))) : Sl W (.slice (some ⟨B, 3, none⟩) 32 32) 1 sm.length (byV sm) := by
 rw [h.len]
 refine ⟨by rw [byV_length, h.len], .inr ⟨_, 32, rfl, Nat.le_refl _, by unfold maxLen; omega, fun j u hu => ?_⟩⟩
 rw [Addr.add_mid, cell_row hb]
 exact h.cp j u hu
theorem P_Check (w : World) (p : Array Value) (r : ByteArray) (ep ix : Int) (pv : List UInt8) (s : ByteArray) (hp : HdP p r ep ix pv s) (hv : VarsI w) (hr : r.size ≤ 140737488351232) (hs : s.size ≤ maxLen) :
 Calls Tryz.prog 49 #[.agg p] w (RB (.int .i64 (whyOf (checkH (hdOf r ep ix pv s)))) w) := WireC.h_Check w p r ep ix pv s hp hv hr hs
theorem R_Check (w : World) (p : Array Value) (r : ByteArray) (ep ix : Int) (pv : List UInt8) (s : ByteArray) (hp : HdP p r ep ix pv s) (hr : r.size ≤ 140737488351232) (hs : s.size ≤ maxLen) :
 Calls Tryz.prog 89 #[.agg p] w (RB (.int .i64 (whyOf (checkH (hdOf r ep ix pv s)))) w) := WireF.r_Check w p r ep ix pv s hp hr hs
theorem hd_len {e : WireS.Hd} (h : HdS.Right e) (hp : e.sum.length = 32) : (HdS.text e).length ≤ 100000 := by
 obtain ⟨h1, h2⟩ := fits_iff.1 (h.fits hp)
 have h3 := EntX.flat_len _ h2
 have h4 : (HdS.parts e).length = 5 := rfl
 have h5 := OctetS.num_length2 (n := 5) (by omega)
 unfold HdS.text OctetS.list
 rw [List.length_append, h4]
 rw [h4] at h3
 omega
theorem hbytes_ok {e : WireS.Hd} : HdS.bytesW e = (if checkH e = true then (if (HdS.text e).length ≤ 8192 then (HdS.bytesE e, 0) else ([], 7)) else ([], 2)) := rfl
theorem P_Text (w : World) (p : Array Value) (r : ByteArray) (ep ix : Int) (pv : List UInt8) (s : ByteArray) (hp : HdP p r ep ix pv s) (hv : VarsI w) (hr : r.size ≤ 140737488351232) (hs : s.size ≤ maxLen) :
 Calls Tryz.prog 50 #[.agg p] w (RB (.tuple #[.string (bsOf (HdS.textOf (hdOf r ep ix pv s))), .int .i64 (whyOf (checkH (hdOf r ep ix pv s)))]) w) := by
 have hC := fun w hv => P_Check w p r ep ix pv s hp hv hr hs
 have p0 := hp.c0
 have p1 := hp.c1
 have p2 := hp.c2
 have hps := hp.size
 have hpi : (Tryz.prog.info? 47).map (·.size) = some 36 := by kernel_rfl
 rw [← hps] at hpi
 have HI := lh hpi
 clear hpi hps
 obtain ⟨w0, hw0⟩ := nXe (w.alloc (.cells p 47))
 have hb0 : Below w.heap.size w w0 := by rw [hw0]; exact ((Below.refl _ w).alloc (Nat.le_refl _) _)
 have hx0 : w0.heap[w.heap.size]? = some (.cells p 47 (0, 0)) := by rw [hw0]; exact heap_new _ _
 have HBL0 := lh hb0
 have HW0 := lh hw0
 have lx0 := lt_row hx0
 obtain ⟨cx0, fx0⟩ := row_facts hx0
 have HV0 := lh (hv.below hb0)
 unfold HdS.textOf
 unfold maxLen at hs
 have HP := lh hp
 have Hx0 := lh hx0
 cases hchk : checkH (hdOf r ep ix pv s)
 ·skip
  rw [hchk] at hC
  have HC := lh hC
  clear hC hchk hr hs hp hb0 hv hw0
  go_enter Tryz.func50, Tryz.ntmps50
  go_wp2_with (first | (rw [← HW0.out]; refine wpList_load_row rfl _ _ rfl w.heap.size rfl _ p (0, 0) _ Hx0.out Tryz.underlying47 rfl HI.out ?_) | fail)
  refine (HC.out w0 HV0.out).mono ?_
  rintro e' w1 ⟨rfl, hb⟩
  have HBL1 := tbB HBL0 hb
  have hx1 := (hb.block _ lx0).trans hx0
  have lx1 := lt_row hx1
  obtain ⟨cx1, fx1⟩ := row_facts hx1
  have HV1 := lh (HV0.out.below hb)
  clear hb hx0 cx0 fx0
  unfold whyOf
  go_wp2
  go_ret2
  exact ⟨rfl, HBL1.out⟩
 ·skip
  have hR := HdS.check_iff.1 hchk
  have h0 := hR.ep0
  have h1 := hR.ep1
  have h2 := hR.ix0
  have h3 := hR.ix1
  have hfit := hR.fits hp.len
  simp only [hdOf] at h0 h1 h2 h3
  obtain ⟨m, rfl⟩ : ∃ m : Nat, ep = m := ⟨ep.toNat, by omega⟩
  obtain ⟨j, rfl⟩ : ∃ j : Nat, ix = j := ⟨ix.toNat, by omega⟩
  have hparts : HdS.parts (hdOf r m j pv s) = [bsOf WireS.markH, r, bsOf (num m), bsOf (num j), bsOf pv].map bl := by
   simp [HdS.parts, hdOf, bl_bsOf]
  have hfin : HdS.text (hdOf r m j pv s) = OctetS.list ([bsOf WireS.markH, r, bsOf (num m), bsOf (num j), bsOf pv].map bl) := by
   unfold HdS.text
   rw [hparts]
  rw [if_pos rfl, hfin]
  rw [hparts] at hfit
  have hL := fun w v h => List_ok w v [bsOf WireS.markH, r, bsOf (num m), bsOf (num j), bsOf pv] h hfit
  rw [hchk] at hC
  obtain ⟨out, hout⟩ := nXe (bsOf (OctetS.list ([bsOf WireS.markH, r, bsOf (num m), bsOf (num j), bsOf pv].map bl)))
  obtain ⟨n1, hn1⟩ := nXe (bsOf (num m))
  obtain ⟨n2, hn2⟩ := nXe (bsOf (num j))
  obtain ⟨q, hq⟩ := nXe (bsOf pv)
  have hN1 := fun w => Num_ok w m (by unfold maxNum; omega)
  have hN2 := fun w => Num_ok w j (by unfold maxNum; omega)
  rw [← hn1] at hN1
  rw [← hn2] at hN2
  rw [← hout]
  rw [← hout, ← hn1, ← hn2, ← hq] at hL
  have HC := lh hC
  have HN1 := lh hN1
  have HN2 := lh hN2
  have HL := lh hL
  have HQ := lh hq
  clear hC hN1 hN2 hL hn1 hn2 hout hfin hparts hfit hR hchk hq hr hs hp hb0 hv hw0
  go_enter Tryz.func50, Tryz.ntmps50
  go_wp2_with (first | (rw [← HW0.out]; refine wpList_load_row rfl _ _ rfl w.heap.size rfl _ p (0, 0) _ Hx0.out Tryz.underlying47 rfl HI.out ?_) | fail)
  refine (HC.out w0 HV0.out).mono ?_
  rintro e' w1 ⟨rfl, hb⟩
  have HBL1 := tbB HBL0 hb
  have hx1 := (hb.block _ lx0).trans hx0
  have lx1 := lt_row hx1
  obtain ⟨cx1, fx1⟩ := row_facts hx1
  have HV1 := lh (HV0.out.below hb)
  clear hb hx0 cx0 fx0
  unfold whyOf
  go_wp2_with fail
  refine (HN1.out w1).mono ?_
  rintro e w2 ⟨rfl, hb⟩
  have HBL2 := tbB HBL1 hb
  have hx2 := (hb.block _ lx1).trans hx1
  have lx2 := lt_row hx2
  obtain ⟨cx2, fx2⟩ := row_facts hx2
  have HV2 := lh (HV1.out.below hb)
  clear hb hx1 cx1 fx1
  go_wp2_with fail
  refine (HN2.out w2).mono ?_
  rintro e w3 ⟨rfl, hb⟩
  have HBL3 := tbB HBL2 hb
  have hx3 := (hb.block _ lx2).trans hx2
  have lx3 := lt_row hx3
  obtain ⟨cx3, fx3⟩ := row_facts hx3
  have HV3 := lh (HV2.out.below hb)
  clear hb hx2 cx2 fx2
  go_wp2_with fail
  refine wp_region_noPanic ?_
  refine Wr.region_K (S := (fun W => W.heap[w.heap.size]? = some (.cells p 47 (0, 0)))) (K := []) (by kernel_rfl) ?_
  change Wr.wpAnyK _ _ _ _ _ _ _ _ _ (World.drew w3)
  have hS0 : (World.drew w3).heap[w.heap.size]? = some (.cells p 47 (0, 0)) := hx3
  have hBL0 : Below w3.heap.size w3 (World.drew w3) := Bl.drew (Below.refl _ _)
  refine Wr.tkK (i := 0) (v := ?_) rfl (.inl ⟨by rfl, ?_⟩) hS0 ?_
  rotate_left
  ·intro wq hSw
   have q0 := hSw
   obtain ⟨qc0, qf0⟩ := row_facts q0
   go_simp
   rfl
  simp only [Act.put, sxx]
  refine Wr.tkK (i := 1) (v := ?_) rfl (.inl ⟨by rfl, ?_⟩) hS0 ?_
  rotate_left
  ·intro wq hSw
   have q0 := hSw
   obtain ⟨qc0, qf0⟩ := row_facts q0
   go_simp
   rfl
  simp only [Act.put, sxx]
  refine Wr.tkK (i := 2) (v := ?_) rfl (.inl ⟨by rfl, ?_⟩) hS0 ?_
  rotate_left
  ·intro wq hSw
   have q0 := hSw
   obtain ⟨qc0, qf0⟩ := row_facts q0
   go_simp
   rfl
  simp only [Act.put, sxx]
  refine Wr.tkK (i := 3) (v := ?_) rfl (.inl ⟨by rfl, ?_⟩) hS0 ?_
  rotate_left
  ·intro wq hSw
   have q0 := hSw
   obtain ⟨qc0, qf0⟩ := row_facts q0
   go_simp
   rfl
  simp only [Act.put, sxx]
  refine Wr.tkK (i := 4) (v := ?_) rfl (.inl ⟨by rfl, ?_⟩) hS0 ?_
  rotate_left
  ·intro wq hSw
   have q0 := hSw
   obtain ⟨qc0, qf0⟩ := row_facts q0
   go_simp
   rfl
  simp only [Act.put, sxx]
  refine Wr.tkK (i := 5) (v := ?_) rfl (.inl ⟨by rfl, ?_⟩) hS0 ?_
  rotate_left
  ·intro wq hSw
   have q0 := hSw
   obtain ⟨qc0, qf0⟩ := row_facts q0
   go_simp
   rfl
  simp only [Act.put, sxx]
  refine Wr.tkK (i := 6) (v := (.string q)) rfl (.inl ⟨by rfl, ?_⟩) hS0 ?_
  ·intro wq hSw
   have q0 := hSw
   obtain ⟨qc0, qf0⟩ := row_facts q0
   have hcv := run_text' wq 101 9 5 Tryz.underlying101 Tryz.underlying5 Tryz.underlying9 _ _ (sl_of HP.out q0)
   rw [← HQ.out] at hcv
   go_simp
  simp only [Act.put, sxx]
  refine Wr.wpAnyK_one (i := 7) (by kernel_rfl) ?_
  refine wpOp_run rfl (by rfl) (w' := (World.drew w3).alloc (.cells #[.string ⟨#[104, 101, 97, 100]⟩, .string r, .string n1, .string n2, .string q] 9)) (v := .slice (some ⟨(World.drew w3).heap.size, 0, none⟩) 5 5) (by go_simp; first | done | rfl) ?_
  obtain ⟨w6, hw_w6⟩ := nXe ((World.drew w3).alloc (.cells #[.string ⟨#[104, 101, 97, 100]⟩, .string r, .string n1, .string n2, .string q] 9))
  rw [← hw_w6]
  have hb_w6 : Below (World.drew w3).heap.size (World.drew w3) w6 := by rw [hw_w6]; exact bAx
  have hn_w6 : w6.heap[(World.drew w3).heap.size]? = some (.cells #[.string ⟨#[104, 101, 97, 100]⟩, .string r, .string n1, .string n2, .string q] 9 (0, 0)) := by rw [hw_w6]; exact heap_new' _ rfl
  have hS1 : w6.heap[w.heap.size]? = some (.cells p 47 (0, 0)) := (hb_w6.block _ (lt_row (hS0))).trans (hS0)
  have hBL1 : Below w3.heap.size w3 w6 := hBL0.trans (hb_w6.mono hBL0.size)
  clear hw_w6
  refine ⟨hS1, ?_⟩
  simp only [Act.put, sxx]
  refine Wr.wpAnyK_one (i := 8) (by kernel_rfl) ?_
  refine wpOp_call rfl (by rfl) (by go_simp; all_goals (and_intros <;> rfl)) ?_
  refine (HL.out w6 _ (EventB.sl_built hn_w6 rfl (by simp [maxLen]))).mono ?_
  rintro e w7 ⟨rfl, hb_w7⟩
  have hS2 : w7.heap[w.heap.size]? = some (.cells p 47 (0, 0)) := (hb_w7.block _ (lt_row (hS1))).trans (hS1)
  have hBL2 : Below w3.heap.size w3 w7 := hBL1.trans (hb_w7.mono hBL1.size)
  refine ⟨_, rfl, ?_, ?_⟩
  ·exact hS2
  simp only [Act.put, sxx]
  refine Wr.tkK (i := 9) (v := ?_) rfl (.inl ⟨by rfl, ?_⟩) hS2 ?_
  rotate_left
  ·intro wq hSw
   have q0 := hSw
   obtain ⟨qc0, qf0⟩ := row_facts q0
   go_simp
   rfl
  simp only [Act.put, sxx]
  refine Wr.tkK (i := 10) (v := ?_) rfl (.inl ⟨by rfl, ?_⟩) hS2 ?_
  rotate_left
  ·intro wq hSw
   have q0 := hSw
   obtain ⟨qc0, qf0⟩ := row_facts q0
   go_simp
   rfl
  simp only [Act.put, sxx]
  refine Wr.tkK (i := 11) (v := ?_) rfl (.inl ⟨by rfl, ?_⟩) hS2 ?_
  rotate_left
  ·intro wq hSw
   have q0 := hSw
   obtain ⟨qc0, qf0⟩ := row_facts q0
   go_simp
   rfl
  simp only [Act.put, sxx]
  refine Wr.tkK (i := 12) (v := ?_) rfl (.inl ⟨by rfl, ?_⟩) hS2 ?_
  rotate_left
  ·intro wq hSw
   have q0 := hSw
   obtain ⟨qc0, qf0⟩ := row_facts q0
   go_simp
   rfl
  simp only [Act.put, sxx]
  refine Wr.wpAnyK_done (by kernel_rfl) (NoPanic.normal ?_) _
  go_wp2
  go_ret2
  exact ⟨rfl, HBL3.out.trans (hBL2.mono HBL3.out.size)⟩
theorem R_Text (w : World) (p : Array Value) (r : ByteArray) (ep ix : Int) (pv : List UInt8) (s : ByteArray) (hp : HdP p r ep ix pv s) (hr : r.size ≤ 140737488351232) (hs : s.size ≤ maxLen) :
 Calls Tryz.prog 51 #[.agg p] w (RB (.tuple #[.string (bsOf (HdS.textOf (hdOf r ep ix pv s))), .int .i64 (whyOf (checkH (hdOf r ep ix pv s)))]) w) := by
 have hC := fun w => R_Check w p r ep ix pv s hp hr hs
 have p0 := hp.c0
 have p1 := hp.c1
 have p2 := hp.c2
 have hps := hp.size
 have hpi : (Tryz.prog.info? 47).map (·.size) = some 36 := by kernel_rfl
 rw [← hps] at hpi
 have HI := lh hpi
 clear hpi hps
 obtain ⟨w0, hw0⟩ := nXe (w.alloc (.cells p 47))
 have hb0 : Below w.heap.size w w0 := by rw [hw0]; exact ((Below.refl _ w).alloc (Nat.le_refl _) _)
 have hx0 : w0.heap[w.heap.size]? = some (.cells p 47 (0, 0)) := by rw [hw0]; exact heap_new _ _
 have HBL0 := lh hb0
 have HW0 := lh hw0
 have lx0 := lt_row hx0
 obtain ⟨cx0, fx0⟩ := row_facts hx0
 unfold HdS.textOf
 unfold maxLen at hs
 have HP := lh hp
 have Hx0 := lh hx0
 cases hchk : checkH (hdOf r ep ix pv s)
 ·skip
  rw [hchk] at hC
  have HC := lh hC
  clear hC hchk hr hs hp hb0 hw0
  go_enter Tryz.func51, Tryz.ntmps51
  go_wp2_with (first | (rw [← HW0.out]; refine wpList_load_row rfl _ _ rfl w.heap.size rfl _ p (0, 0) _ Hx0.out Tryz.underlying47 rfl HI.out ?_) | fail)
  refine (HC.out w0).mono ?_
  rintro e' w1 ⟨rfl, hb⟩
  have HBL1 := tbB HBL0 hb
  have hx1 := (hb.block _ lx0).trans hx0
  have lx1 := lt_row hx1
  obtain ⟨cx1, fx1⟩ := row_facts hx1
  clear hb hx0 cx0 fx0
  unfold whyOf
  go_wp2
  go_ret2
  exact ⟨rfl, HBL1.out⟩
 ·skip
  have hR := HdS.check_iff.1 hchk
  have h0 := hR.ep0
  have h1 := hR.ep1
  have h2 := hR.ix0
  have h3 := hR.ix1
  have hfit := hR.fits hp.len
  simp only [hdOf] at h0 h1 h2 h3
  obtain ⟨m, rfl⟩ : ∃ m : Nat, ep = m := ⟨ep.toNat, by omega⟩
  obtain ⟨j, rfl⟩ : ∃ j : Nat, ix = j := ⟨ix.toNat, by omega⟩
  have hparts : HdS.parts (hdOf r m j pv s) = [bsOf WireS.markH, r, bsOf (num m), bsOf (num j), bsOf pv].map bl := by
   simp [HdS.parts, hdOf, bl_bsOf]
  have hfin : HdS.text (hdOf r m j pv s) = OctetS.list ([bsOf WireS.markH, r, bsOf (num m), bsOf (num j), bsOf pv].map bl) := by
   unfold HdS.text
   rw [hparts]
  rw [if_pos rfl, hfin]
  rw [hparts] at hfit
  have hL := fun w v h => Ref1L.List_ok w v [bsOf WireS.markH, r, bsOf (num m), bsOf (num j), bsOf pv] h hfit
  rw [hchk] at hC
  obtain ⟨out, hout⟩ := nXe (bsOf (OctetS.list ([bsOf WireS.markH, r, bsOf (num m), bsOf (num j), bsOf pv].map bl)))
  obtain ⟨n1, hn1⟩ := nXe (bsOf (num m))
  obtain ⟨n2, hn2⟩ := nXe (bsOf (num j))
  obtain ⟨q, hq⟩ := nXe (bsOf pv)
  have hN1 := fun w => Ref1N.Num_ok w m (by unfold maxNum; omega)
  have hN2 := fun w => Ref1N.Num_ok w j (by unfold maxNum; omega)
  rw [← hn1] at hN1
  rw [← hn2] at hN2
  rw [← hout]
  rw [← hout, ← hn1, ← hn2, ← hq] at hL
  have HC := lh hC
  have HN1 := lh hN1
  have HN2 := lh hN2
  have HL := lh hL
  have HQ := lh hq
  clear hC hN1 hN2 hL hn1 hn2 hout hfin hparts hfit hR hchk hq hr hs hp hb0 hw0
  go_enter Tryz.func51, Tryz.ntmps51
  go_wp2_with (first | (rw [← HW0.out]; refine wpList_load_row rfl _ _ rfl w.heap.size rfl _ p (0, 0) _ Hx0.out Tryz.underlying47 rfl HI.out ?_) | fail)
  refine (HC.out w0).mono ?_
  rintro e' w1 ⟨rfl, hb⟩
  have HBL1 := tbB HBL0 hb
  have hx1 := (hb.block _ lx0).trans hx0
  have lx1 := lt_row hx1
  obtain ⟨cx1, fx1⟩ := row_facts hx1
  clear hb hx0 cx0 fx0
  unfold whyOf
  go_wp2_with fail
  refine (HN1.out w1).mono ?_
  rintro e w2 ⟨rfl, hb⟩
  have HBL2 := tbB HBL1 hb
  have hx2 := (hb.block _ lx1).trans hx1
  have lx2 := lt_row hx2
  obtain ⟨cx2, fx2⟩ := row_facts hx2
  clear hb hx1 cx1 fx1
  go_wp2_with fail
  refine (HN2.out w2).mono ?_
  rintro e w3 ⟨rfl, hb⟩
  have HBL3 := tbB HBL2 hb
  have hx3 := (hb.block _ lx2).trans hx2
  have lx3 := lt_row hx3
  obtain ⟨cx3, fx3⟩ := row_facts hx3
  clear hb hx2 cx2 fx2
  go_wp2_with fail
  refine wp_region_noPanic ?_
  refine Wr.region_K (S := (fun W => W.heap[w.heap.size]? = some (.cells p 47 (0, 0)))) (K := []) (by kernel_rfl) ?_
  change Wr.wpAnyK _ _ _ _ _ _ _ _ _ (World.drew w3)
  have hS0 : (World.drew w3).heap[w.heap.size]? = some (.cells p 47 (0, 0)) := hx3
  have hBL0 : Below w3.heap.size w3 (World.drew w3) := Bl.drew (Below.refl _ _)
  refine Wr.tkK (i := 0) (v := ?_) rfl (.inl ⟨by rfl, ?_⟩) hS0 ?_
  rotate_left
  ·intro wq hSw
   have q0 := hSw
   obtain ⟨qc0, qf0⟩ := row_facts q0
   go_simp
   rfl
  simp only [Act.put, sxx]
  refine Wr.tkK (i := 1) (v := ?_) rfl (.inl ⟨by rfl, ?_⟩) hS0 ?_
  rotate_left
  ·intro wq hSw
   have q0 := hSw
   obtain ⟨qc0, qf0⟩ := row_facts q0
   go_simp
   rfl
  simp only [Act.put, sxx]
  refine Wr.tkK (i := 2) (v := ?_) rfl (.inl ⟨by rfl, ?_⟩) hS0 ?_
  rotate_left
  ·intro wq hSw
   have q0 := hSw
   obtain ⟨qc0, qf0⟩ := row_facts q0
   go_simp
   rfl
  simp only [Act.put, sxx]
  refine Wr.tkK (i := 3) (v := ?_) rfl (.inl ⟨by rfl, ?_⟩) hS0 ?_
  rotate_left
  ·intro wq hSw
   have q0 := hSw
   obtain ⟨qc0, qf0⟩ := row_facts q0
   go_simp
   rfl
  simp only [Act.put, sxx]
  refine Wr.tkK (i := 4) (v := ?_) rfl (.inl ⟨by rfl, ?_⟩) hS0 ?_
  rotate_left
  ·intro wq hSw
   have q0 := hSw
   obtain ⟨qc0, qf0⟩ := row_facts q0
   go_simp
   rfl
  simp only [Act.put, sxx]
  refine Wr.tkK (i := 5) (v := ?_) rfl (.inl ⟨by rfl, ?_⟩) hS0 ?_
  rotate_left
  ·intro wq hSw
   have q0 := hSw
   obtain ⟨qc0, qf0⟩ := row_facts q0
   go_simp
   rfl
  simp only [Act.put, sxx]
  refine Wr.tkK (i := 6) (v := (.string q)) rfl (.inl ⟨by rfl, ?_⟩) hS0 ?_
  ·intro wq hSw
   have q0 := hSw
   obtain ⟨qc0, qf0⟩ := row_facts q0
   have hcv := run_text' wq 101 9 5 Tryz.underlying101 Tryz.underlying5 Tryz.underlying9 _ _ (sl_of HP.out q0)
   rw [← HQ.out] at hcv
   go_simp
  simp only [Act.put, sxx]
  refine Wr.wpAnyK_one (i := 7) (by kernel_rfl) ?_
  refine wpOp_run rfl (by rfl) (w' := (World.drew w3).alloc (.cells #[.string ⟨#[104, 101, 97, 100]⟩, .string r, .string n1, .string n2, .string q] 9)) (v := .slice (some ⟨(World.drew w3).heap.size, 0, none⟩) 5 5) (by go_simp; first | done | rfl) ?_
  obtain ⟨w6, hw_w6⟩ := nXe ((World.drew w3).alloc (.cells #[.string ⟨#[104, 101, 97, 100]⟩, .string r, .string n1, .string n2, .string q] 9))
  rw [← hw_w6]
  have hb_w6 : Below (World.drew w3).heap.size (World.drew w3) w6 := by rw [hw_w6]; exact bAx
  have hn_w6 : w6.heap[(World.drew w3).heap.size]? = some (.cells #[.string ⟨#[104, 101, 97, 100]⟩, .string r, .string n1, .string n2, .string q] 9 (0, 0)) := by rw [hw_w6]; exact heap_new' _ rfl
  have hS1 : w6.heap[w.heap.size]? = some (.cells p 47 (0, 0)) := (hb_w6.block _ (lt_row (hS0))).trans (hS0)
  have hBL1 : Below w3.heap.size w3 w6 := hBL0.trans (hb_w6.mono hBL0.size)
  clear hw_w6
  refine ⟨hS1, ?_⟩
  simp only [Act.put, sxx]
  refine Wr.wpAnyK_one (i := 8) (by kernel_rfl) ?_
  refine wpOp_call rfl (by rfl) (by go_simp; all_goals (and_intros <;> rfl)) ?_
  refine (HL.out w6 _ (EventB.sl_built hn_w6 rfl (by simp [maxLen]))).mono ?_
  rintro e w7 ⟨rfl, hb_w7⟩
  have hS2 : w7.heap[w.heap.size]? = some (.cells p 47 (0, 0)) := (hb_w7.block _ (lt_row (hS1))).trans (hS1)
  have hBL2 : Below w3.heap.size w3 w7 := hBL1.trans (hb_w7.mono hBL1.size)
  refine ⟨_, rfl, ?_, ?_⟩
  ·exact hS2
  simp only [Act.put, sxx]
  refine Wr.tkK (i := 9) (v := ?_) rfl (.inl ⟨by rfl, ?_⟩) hS2 ?_
  rotate_left
  ·intro wq hSw
   have q0 := hSw
   obtain ⟨qc0, qf0⟩ := row_facts q0
   go_simp
   rfl
  simp only [Act.put, sxx]
  refine Wr.tkK (i := 10) (v := ?_) rfl (.inl ⟨by rfl, ?_⟩) hS2 ?_
  rotate_left
  ·intro wq hSw
   have q0 := hSw
   obtain ⟨qc0, qf0⟩ := row_facts q0
   go_simp
   rfl
  simp only [Act.put, sxx]
  refine Wr.tkK (i := 11) (v := ?_) rfl (.inl ⟨by rfl, ?_⟩) hS2 ?_
  rotate_left
  ·intro wq hSw
   have q0 := hSw
   obtain ⟨qc0, qf0⟩ := row_facts q0
   go_simp
   rfl
  simp only [Act.put, sxx]
  refine Wr.tkK (i := 12) (v := ?_) rfl (.inl ⟨by rfl, ?_⟩) hS2 ?_
  rotate_left
  ·intro wq hSw
   have q0 := hSw
   obtain ⟨qc0, qf0⟩ := row_facts q0
   go_simp
   rfl
  simp only [Act.put, sxx]
  refine Wr.wpAnyK_done (by kernel_rfl) (NoPanic.normal ?_) _
  go_wp2
  go_ret2
  exact ⟨rfl, HBL3.out.trans (hBL2.mono HBL3.out.size)⟩
theorem P_Bytes (w : World) (p : Array Value) (r : ByteArray) (ep ix : Int) (pv : List UInt8) (s : ByteArray) (hp : HdP p r ep ix pv s) (hv : VarsI w) (hr : r.size ≤ 140737488351232) (hs : s.size ≤ maxLen) :
 Calls Tryz.prog 46 #[.agg p] w (KeyA.RB (.tuple #[.string (bsOf (HdS.bytesW (hdOf r ep ix pv s)).1), .int .i64 (HdS.bytesW (hdOf r ep ix pv s)).2]) w) := by
 have hT := fun w hv => P_Text w p r ep ix pv s hp hv hr hs
 unfold HdS.textOf at hT
 rw [hbytes_ok]
 have hps := hp.size
 have hpi : (Tryz.prog.info? 47).map (·.size) = some 36 := by kernel_rfl
 rw [← hps] at hpi
 have HI := lh hpi
 have p35 : p[35]? = some (.string s) := by
  rw [hp.eq]
  unfold hdA
  have hl : (byV pv).length = 32 := by rw [byV_length, hp.len]
  simp [hl]
 obtain ⟨w0, hw0⟩ := nXe (w.alloc (.cells p 47))
 have hb0 : Below w.heap.size w w0 := by rw [hw0]; exact (Below.refl _ w).alloc (Nat.le_refl _) _
 have HX0 := lh (show w0.heap[w.heap.size]? = some (.cells p 47 (0, 0)) by rw [hw0]; exact heap_new _ _)
 have HBL0 := lh hb0
 have HW0 := lh hw0
 have HV0 := lh (hv.below hb0)
 cases hchk : checkH (hdOf r ep ix pv s)
 ·skip
  rw [hchk] at hT
  rw [if_neg (by simp)]
  have HT := lh hT
  clear hT hchk hr hs hp hb0 hv hw0 hpi hps p35
  go_enter Tryz.func46, Tryz.ntmps46
  go_wp2_with (first | (rw [← HW0.out]; refine wpList_load_row rfl _ _ rfl w.heap.size rfl _ p (0, 0) _ HX0.out Tryz.underlying47 rfl HI.out ?_) | fail)
  refine (HT.out w0 HV0.out).mono ?_
  rintro e' w1 ⟨rfl, hb⟩
  have HBL1 := tbB HBL0 hb
  clear hb
  unfold whyOf
  go_wp2
  go_ret2
  exact ⟨rfl, HBL1.out⟩
 ·skip
  rw [hchk] at hT
  rw [if_pos rfl] at hT ⊢
  have hR := HdS.check_iff.1 hchk
  have hlen := hd_len hR hp.len
  have hsig := hR.sig
  have hbf : (HdS.text (hdOf r ep ix pv s)).length ≤ 8192 → fits [HdS.text (hdOf r ep ix pv s), bl s] = true := fun h => HdS.bytes_fits hR h
  have hbe : HdS.bytesE (hdOf r ep ix pv s) = OctetS.list [HdS.text (hdOf r ep ix pv s), bl s] := rfl
  rw [hbe]
  obtain ⟨t, ht⟩ := nXe (HdS.text (hdOf r ep ix pv s))
  rw [← ht] at hT hlen hbf ⊢
  obtain ⟨Tb, hTb⟩ := nXe (bsOf t)
  have hTl : bl Tb = t := by rw [hTb, bl_bsOf]
  have hTs : Tb.size = t.length := by rw [hTb, size_bsOf]
  rw [← hTb] at hT
  have hL : ∀ w v, Rd w v [Tb, s] → Calls Tryz.prog 60 #[v] w (KeyA.RB (.tuple #[.string (bsOf (if t.length ≤ 8192 then (OctetS.list [t, bl s], (0 : Int)) else ([], 7)).1), .int .i64 (if t.length ≤ 8192 then (OctetS.list [t, bl s], (0 : Int)) else ([], 7)).2]) w) := fun w v hrd => by
   by_cases h8 : t.length ≤ 8192
   ·rw [if_pos h8]
    have := List_ok w v [Tb, s] hrd (by simp only [List.map_cons, List.map_nil, hTl]; exact hbf h8)
    simp only [List.map_cons, List.map_nil, hTl] at this
    exact this
   ·rw [if_neg h8]
    exact EntY.List_long w v Tb [s] hrd (by simp) (by omega) (by omega)
  obtain ⟨O, hO⟩ := nXe (bsOf (if t.length ≤ 8192 then (OctetS.list [t, bl s], (0 : Int)) else ([], 7)).1)
  obtain ⟨E, hE⟩ := nXe ((if t.length ≤ 8192 then (OctetS.list [t, bl s], (0 : Int)) else ([], 7)).2)
  rw [← hO, ← hE] at hL ⊢
  have HT := lh hT
  have HL := lh hL
  clear hL hO hE hT hTb hTl hTs ht hbf hbe hlen hsig hR hchk hr hs hp hb0 hv hw0 hpi hps
  go_enter Tryz.func46, Tryz.ntmps46
  go_wp2_with (first | (rw [← HW0.out]; refine wpList_load_row rfl _ _ rfl w.heap.size rfl _ p (0, 0) _ HX0.out Tryz.underlying47 rfl HI.out ?_) | fail)
  refine (HT.out w0 HV0.out).mono ?_
  rintro e' w1 ⟨rfl, hb⟩
  have HBL1 := tbB HBL0 hb
  have HX1 := kpB hb HX0
  clear hb
  have hc35 : w1.cell? ⟨w.heap.size, 35, none⟩ = some (.string s) := by rw [cell_row HX1.out]; exact p35
  unfold whyOf
  go_wp2_with fail
  refine (HL.out _ _ (EventB.sl_built (n := 2) (heap_new _ _) rfl (by simp [maxLen]))).mono ?_
  rintro e' w2 ⟨rfl, hb⟩
  have HBL2 := lh (HBL1.out.trans ((((Below.refl _ w1).alloc (Nat.le_refl _) _).trans (hb.mono (by simp))).mono HBL1.out.size))
  clear hb
  go_wp2
  go_ret2
  exact ⟨rfl, HBL2.out⟩
def ofA (r : ByteArray) (ep ix : Int) (x : Ent) : Array Value := if EntS.checkB x = true then hdA r ep ix (EntX.sumE x).l ⟨#[]⟩ else hdZ
theorem cells32 (C : Array Value) (h : C.size = 32) : ∃ c0 c1 c2 c3 c4 c5 c6 c7 c8 c9 c10 c11 c12 c13 c14 c15 c16 c17 c18 c19 c20 c21 c22 c23 c24 c25 c26 c27 c28 c29 c30 c31 : Value, C = #[c0, c1, c2, c3, c4, c5, c6, c7, c8, c9, c10, c11, c12, c13, c14, c15, c16, c17, c18, c19, c20, c21, c22, c23, c24, c25, c26, c27, c28, c29, c30, c31] := by
 obtain ⟨l⟩ := C
 have hl : l.length = 32 := h
 match l, hl with
 | [c0, c1, c2, c3, c4, c5, c6, c7, c8, c9, c10, c11, c12, c13, c14, c15, c16, c17, c18, c19, c20, c21, c22, c23, c24, c25, c26, c27, c28, c29, c30, c31], _ => exact ⟨_, _, _, _, _, _, _, _, _, _, _, _, _, _, _, _, _, _, _, _, _, _, _, _, _, _, _, _, _, _, _, _, rfl⟩
theorem built_hd (r : ByteArray) (ep ix : Int) (X : H32) (C Y : Array Value) (hC : C = X.A) (hY : Y = hdA r ep ix X.l ⟨#[]⟩) : Tryz.prog.built 47 [(0, .string r), (1, .int .i64 ep), (2, .int .i64 ix), (3, .agg C)] = some Y := by
 have hY2 : Y = (([.string r, .int .i64 ep, .int .i64 ix] ++ C.toList ++ [.string ⟨#[]⟩] : List Value)).toArray := by
  rw [hY, hC]
  rfl
 obtain ⟨c0, c1, c2, c3, c4, c5, c6, c7, c8, c9, c10, c11, c12, c13, c14, c15, c16, c17, c18, c19, c20, c21, c22, c23, c24, c25, c26, c27, c28, c29, c30, c31, hc⟩ := cells32 C (by rw [hC]; exact X.size)
 rw [hY2, hc]
 clear hY2 hc hC hY X Y C
 change _ = _
 kernel_rfl
theorem P_Of (w : World) (p : Array Value) (r : ByteArray) (ep ix : Int) (pv : List UInt8) (e s : ByteArray) (hp : EntP p r ep ix pv e s) (hv : VarsI w) (hk : VarsH w) (hr : r.size ≤ 140737488351232) (he : e.size ≤ maxLen) (hs : s.size ≤ maxLen) :
 Calls Tryz.prog 43 #[.agg p] w (RB (.tuple #[.agg (ofA r ep ix (entOf r ep ix pv e s)), .int .i64 (whyOf (EntS.checkB (entOf r ep ix pv e s)))]) w) := by
 have hS := fun w hv hk => EntX.Sum_ok w p r ep ix pv e s hp hv hk hr he hs
 have hps := hp.size
 have hpi : (Tryz.prog.info? 27).map (·.size) = some 37 := by kernel_rfl
 rw [← hps] at hpi
 have HI := lh hpi
 have p0 := hp.c0
 have p1 := hp.c1
 have p2 := hp.c2
 unfold ofA
 obtain ⟨x, hx⟩ := nXe (entOf r ep ix pv e s)
 rw [← hx] at hS ⊢
 obtain ⟨X, hX⟩ := nXe (EntX.sumE x)
 obtain ⟨C, hC⟩ := nXe (X.A)
 rw [← hX, ← hC] at hS
 have HCS : Hid ((Tryz.prog.info? 25).map (·.size) = some C.size) := lh (by rw [hC]; exact X.info)
 have HCN : Hid (32 = C.size) := lh (by rw [hC]; exact X.size.symm)
 have HCO : Hid (C.all (·.oneCell') = true) := lh (by rw [hC]; exact X.one)
 obtain ⟨Z, hZ⟩ := nXe (hdZ)
 have HLIT : Hid (zq3 Z) := lh (by rw [hZ]; unfold zq3; kernel_rfl)
 have HZN : Hid (Z.size = 36) := lh (by rw [hZ]; rfl)
 have HZS : Hid ((Tryz.prog.info? 47).map (·.size) = some Z.size) := lh (by rw [HZN.out]; kernel_rfl)
 have HZO : Hid (Z.all (·.oneCell') = true) := lh (by rw [hZ]; exact hdA_one _ _ _ _ _)
 obtain ⟨Y, hY⟩ := nXe (hdA r ep ix X.l ⟨#[]⟩)
 have hYn : Y.size = 36 := by rw [hY]; exact hdA_size X.len
 have HYS : Hid ((Tryz.prog.info? 47).map (·.size) = some Y.size) := lh (by rw [hYn]; kernel_rfl)
 have HYN : Hid (Z.size = Y.size) := lh (by rw [hYn]; exact HZN.out)
 have HYO : Hid (Y.all (·.oneCell') = true) := lh (by rw [hY]; exact hdA_one _ _ _ _ _)
 have HYB : Hid (Tryz.prog.built 47 [(0, .string r), (1, .int .i64 ep), (2, .int .i64 ix), (3, .agg C)] = some Y) := lh (built_hd r ep ix X C Y hC hY)
 obtain ⟨w0, hw0⟩ := nXe ((w.alloc (.cells p 27)).alloc (.cells Z 47))
 have hb0 : Below w.heap.size w w0 := by rw [hw0]; exact ((Below.refl _ w).alloc (Nat.le_refl _) _).alloc (by simp) _
 have HX0 := lh (show w0.heap[w.heap.size]? = some (.cells p 27 (0, 0)) by rw [hw0]; exact heap_at (heap_new _ _) _)
 have HZ0 := lh (show w0.heap[w.heap.size + 1]? = some (.cells Z 47 (0, 0)) by rw [hw0]; exact heap_new' _ (by simp))
 have HBL0 := lh hb0
 have HW0 := lh hw0
 have HV0 := lh (hv.below hb0)
 have HK0 := lh (hk.below hb0)
 have HS := lh hS
 have hres : (if EntS.checkB x = true then hdA r ep ix (EntX.sumE x).l ⟨#[]⟩ else hdZ) = (if EntS.checkB x = true then Y else Z) := by rw [hY, hX, hZ]
 rw [hres]
 obtain ⟨c, hc⟩ := nXe (EntS.checkB x)
 rw [← hc] at HS ⊢
 have P0 := lh p0
 have P1 := lh p1
 have P2 := lh p2
 clear hS hps hpi p0 p1 p2 hX hC hZ hY hYn hw0 hb0 hv hk hr he hs hp hres hc hx
 cases c
 ·rw [if_neg (by simp)]
  have HS := lh (show ∀ w, VarsI w → VarsH w → Calls Tryz.prog 44 #[.agg p] w (RB (.tuple #[.agg C, .int .i64 2]) w) from HS.out)
  change Calls _ _ _ _ (RB (.tuple #[.agg Z, .int .i64 2]) w)
  go_enter Tryz.func43, Tryz.ntmps43
  go_wp2_with (first | (rw [HLIT.out, ← HW0.out]; refine wpList_load_row rfl _ _ rfl w.heap.size rfl _ p (0, 0) _ HX0.out Tryz.underlying27 rfl HI.out ?_) | fail)
  refine (HS.out w0 HV0.out HK0.out).mono ?_
  rintro e' w1 ⟨rfl, hb⟩
  have HBL1 := tbB HBL0 hb
  have HX1 := kpB hb HX0
  have HZ1 := kpB hb HZ0
  have hlz := lt_row HZ1.out
  clear hb
  go_wp2_with (first | (refine wpList_store_rowA rfl _ _ _ rfl w1.heap.size C rfl rfl _ _ (heap_new _ _) HCS.out (by rw [← HCN.out]; rfl) HCO.out ?_) | fail)
  intro u1 hu1
  have hb : Below w1.heap.size w1 u1 := by rw [hu1.out]; exact below_row bAx (Nat.le_refl _) _
  have hy : u1.heap[w1.heap.size]? = some (.cells C 25 (0, 0)) := by rw [hu1.out]; exact setRow_at (heap_new _ _)
  clear hu1
  obtain ⟨w2, hww⟩ : ∃ w', w' = u1 := ⟨_, rfl⟩
  rw [← hww] at hb hy ⊢
  clear hww
  have HBL2 := tbB HBL1 hb
  have hx2 := (hb.block _ (lt_row HX1.out)).trans HX1.out
  have HZ2 := kpB hb HZ1
  have HC2 := lh hy
  have k0 : w2.cell? ⟨w.heap.size, 0, none⟩ = some (.string r) := by rw [cell_row hx2]; exact P0.out
  have k1 : w2.cell? ⟨w.heap.size, 1, none⟩ = some (.int .i64 ep) := by rw [cell_row hx2]; exact P1.out
  have k2 : w2.cell? ⟨w.heap.size, 2, none⟩ = some (.int .i64 ix) := by rw [cell_row hx2]; exact P2.out
  clear hb hy hx2
  go_wp2_with (first | (refine wpList_store_rowA rfl _ _ _ rfl (w.heap.size + 1) Z rfl (by rw [← HLIT.out]; rfl) _ _ HZ2.out HZS.out rfl HZO.out ?_) | fail)
  intro wf hwf
  go_wp2
  refine bodyPost_ret (v := .tuple #[.agg Z, .int .i64 2]) (WireT.results_cell_slot rfl _ _ (w.heap.size + 1) 47 Z (0, 0) _ rfl (by rw [hwf.out]; exact setRow_at HZ2.out) Tryz.underlying47 rfl HZS.out rfl) rfl ⟨rfl, by rw [hwf.out]; exact below_row HBL2.out (by omega) _⟩
 ·rw [if_pos rfl]
  have HS := lh (show ∀ w, VarsI w → VarsH w → Calls Tryz.prog 44 #[.agg p] w (RB (.tuple #[.agg C, .int .i64 0]) w) from HS.out)
  change Calls _ _ _ _ (RB (.tuple #[.agg Y, .int .i64 0]) w)
  go_enter Tryz.func43, Tryz.ntmps43
  go_wp2_with (first | (rw [HLIT.out, ← HW0.out]; refine wpList_load_row rfl _ _ rfl w.heap.size rfl _ p (0, 0) _ HX0.out Tryz.underlying27 rfl HI.out ?_) | fail)
  refine (HS.out w0 HV0.out HK0.out).mono ?_
  rintro e' w1 ⟨rfl, hb⟩
  have HBL1 := tbB HBL0 hb
  have HX1 := kpB hb HX0
  have HZ1 := kpB hb HZ0
  have hlz := lt_row HZ1.out
  clear hb
  go_wp2_with (first | (refine wpList_store_rowA rfl _ _ _ rfl w1.heap.size C rfl rfl _ _ (heap_new _ _) HCS.out (by rw [← HCN.out]; rfl) HCO.out ?_) | fail)
  intro u1 hu1
  have hb : Below w1.heap.size w1 u1 := by rw [hu1.out]; exact below_row bAx (Nat.le_refl _) _
  have hy : u1.heap[w1.heap.size]? = some (.cells C 25 (0, 0)) := by rw [hu1.out]; exact setRow_at (heap_new _ _)
  clear hu1
  obtain ⟨w2, hww⟩ : ∃ w', w' = u1 := ⟨_, rfl⟩
  rw [← hww] at hb hy ⊢
  clear hww
  have HBL2 := tbB HBL1 hb
  have hx2 := (hb.block _ (lt_row HX1.out)).trans HX1.out
  have HZ2 := kpB hb HZ1
  have HC2 := lh hy
  have k0 : w2.cell? ⟨w.heap.size, 0, none⟩ = some (.string r) := by rw [cell_row hx2]; exact P0.out
  have k1 : w2.cell? ⟨w.heap.size, 1, none⟩ = some (.int .i64 ep) := by rw [cell_row hx2]; exact P1.out
  have k2 : w2.cell? ⟨w.heap.size, 2, none⟩ = some (.int .i64 ix) := by rw [cell_row hx2]; exact P2.out
  clear hb hy hx2
  go_wp2_with (first | (refine wpList_load_row rfl _ _ rfl w1.heap.size rfl _ C (0, 0) _ HC2.out Tryz.underlying25 rfl HCS.out ?_) | (refine EntQ.wpList_buildC rfl 47 _ rfl Y (by first | exact HYB.out | (go_simp; exact HYB.out)) ?_) | (refine wpList_store_rowA rfl _ _ _ rfl (w.heap.size + 1) Y rfl rfl _ _ HZ2.out HYS.out HYN.out HYO.out ?_) | fail)
  intro wf hwf
  go_wp2
  refine bodyPost_ret (v := .tuple #[.agg Y, .int .i64 0]) (WireT.results_cell_slot rfl _ _ (w.heap.size + 1) 47 Y (0, 0) _ rfl (by rw [hwf.out]; exact setRow_at HZ2.out) Tryz.underlying47 rfl HYS.out rfl) rfl ⟨rfl, by rw [hwf.out]; exact below_row HBL2.out (by omega) _⟩
theorem P_Sign (w : World) (R : Nat) (sd : ByteArray) (h nx : Nat) (v : Value) (x : H32) (hsd : sd.size ≤ 64) (hh : h ≤ 7) (hn : nx < 2 ^ h) (hr0 : w.heap[R]? = some (.cells (ringA sd h nx v x) 75 (0, 0)))
 (hv0 : Sl w v 32 (2 ^ h) ((leavesH (bl sd) (2 ^ h)).flatMap H32.cs)) (hvb : ∀ k, v.ownBlock = some k → k < w.heap.size) (hk : VarsH w)
 (p : Array Value) (r : ByteArray) (ep ix : Int) (pv : List UInt8) (s : ByteArray) (hp : HdP p r ep ix pv s) (hv : VarsI w) (hr : r.size ≤ 140737488351232) (hs : s.size ≤ maxLen) (hchk : checkH (hdOf r ep ix pv s) = true) :
 Calls Tryz.prog 18 #[.pointer (some ⟨R, 0, none⟩), .agg p] w fun e' w' => e' = .returned (.tuple #[.agg (hdA r ep ix pv (bsOf (sigOf (bl sd) h nx (HdS.text (hdOf r ep ix pv s))))), .int .i64 0]) ∧
  w'.heap[R]? = some (.cells (ringA sd h (nx + 1 : Nat) v x) 75 (0, 0)) ∧ Ext (fun k => k = R) w w' := by
 have hT := fun w hv => P_Text w p r ep ix pv s hp hv hr hs
 unfold HdS.textOf at hT
 rw [hchk] at hT
 rw [if_pos rfl] at hT
 have hR := HdS.check_iff.1 hchk
 have hlen := hd_len hR hp.len
 have hps := hp.size
 have H35 := lh hp.c35
 have hpi : (Tryz.prog.info? 47).map (·.size) = some 36 := by kernel_rfl
 obtain ⟨Tb, hT2⟩ := nXe (bsOf (HdS.text (hdOf r ep ix pv s)))
 have hTs : Tb.size ≤ 140737488355328 := by rw [hT2, size_bsOf]; omega
 have hTb : bl Tb = HdS.text (hdOf r ep ix pv s) := by rw [hT2, bl_bsOf]
 rw [← hT2] at hT
 rw [← hTb]
 have hS := fun w' (hb : Below w.heap.size w w') => KeyM.Sign_ok w' R sd Tb h nx v x hsd hTs hh hn ((hb.block _ (lt_row hr0)).trans hr0) (hv0.below hb) (hk.below hb)
 obtain ⟨G, hG⟩ := nXe (bsOf (sigOf (bl sd) h nx (bl Tb)))
 rw [← hG] at hS ⊢
 obtain ⟨E, hE⟩ := nXe (hdA r ep ix pv G)
 have hEp : HdP E r ep ix pv G := ⟨hE, hp.len⟩
 have hset : p.setIfInBounds 35 (.string G) = E := by rw [hp.eq, hE, hd_sig _ _ _ hp.len]
 have HES : Hid ((Tryz.prog.info? 47).map (·.size) = some E.size) := lh (by rw [hEp.size]; exact hpi)
 have HEN : Hid (36 = E.size) := lh hEp.size.symm
 have HEO : Hid (E.all (·.oneCell') = true) := lh (by rw [hE]; exact hdA_one _ _ _ _ _)
 rw [← hE]
 obtain ⟨Z, hZ⟩ := nXe (zl3)
 have HLIT : Hid (zq3 Z) := lh hZ.symm
 have HZN : Hid (Z.size = 36) := lh (by rw [hZ]; rfl)
 have hlR := lt_row hr0
 obtain ⟨w0, hw0⟩ := nXe ((w.alloc (.cells p 47)).alloc (.cells Z 47))
 have hb0 : Below w.heap.size w w0 := by rw [hw0]; exact ((Below.refl _ w).alloc (Nat.le_refl _) _).alloc (by simp) _
 have HX0 := lh (show w0.heap[w.heap.size]? = some (.cells p 47 (0, 0)) by rw [hw0]; exact heap_at (heap_new _ _) _)
 have HZ0 := lh (show w0.heap[w.heap.size + 1]? = some (.cells Z 47 (0, 0)) by rw [hw0]; exact heap_new' _ (by simp))
 have HBL0 := lh hb0
 have HW0 := lh hw0
 have HV0 := lh (hv.below hb0)
 have HT := lh hT
 have HS := lh hS
 have HI := lh (show (Tryz.prog.info? 47).map (·.size) = some p.size by rw [hps]; exact hpi)
 have Hset := lh hset
 clear hT hS hT2 hchk hR hr hs hp hb0 hv hw0 hpi hps hG hE hEp hset hTb hTs hlen hv0 hr0 hk hvb hZ
 go_enter Tryz.func18, Tryz.ntmps18
 go_wp2_with (first | (rw [HLIT.out, ← HW0.out]; refine wpList_load_row rfl _ _ rfl w.heap.size rfl _ p (0, 0) _ HX0.out Tryz.underlying47 rfl HI.out ?_) | fail)
 refine (HT.out w0 HV0.out).mono ?_
 rintro e' w1 ⟨rfl, hb⟩
 have HBL1 := tbB HBL0 hb
 have HX1 := kpB hb HX0
 have HZ1 := kpB hb HZ0
 clear hb
 unfold whyOf
 go_wp2_with fail
 refine (HS.out w1 HBL1.out).mono ?_
 rintro e' w2 ⟨rfl, hr2, hE2⟩
 have hx2 := hE2.blockOf HX1.out (fun h => by omega)
 have HX2 := lh hx2
 have HZ2 := lh (hE2.blockOf HZ1.out (fun h => by omega))
 have HR2 := lh hr2
 have HE2 := lh ((Ext.of_below (S := fun k => k = R) HBL1.out).trans hE2)
 have c35 : w2.cell? ⟨w.heap.size, 35, none⟩ = some (.string s) := by rw [cell_row hx2]; exact H35.out
 have f35 : w2.frozen? ⟨w.heap.size, 35, none⟩ = false := frozen_row hx2
 have HX3 : Hid ((w2.setCell ⟨w.heap.size, 35, none⟩ (.string G)).heap[w.heap.size]? = some (.cells E 47 (0, 0))) := lh (by rw [← Hset.out]; exact heap_setCell_same hx2 _)
 have HZ3 : Hid ((w2.setCell ⟨w.heap.size, 35, none⟩ (.string G)).heap[w.heap.size + 1]? = some (.cells Z 47 (0, 0))) := lh ((heap_setCell_far _ (by omega)).trans HZ2.out)
 have HR3 : Hid ((w2.setCell ⟨w.heap.size, 35, none⟩ (.string G)).heap[R]? = some (.cells (ringA sd h (nx + 1 : Nat) v x) 75 (0, 0))) := lh ((heap_setCell_far _ (by omega)).trans HR2.out)
 have HE3 : Hid (Ext (fun k => k = R) w (w2.setCell ⟨w.heap.size, 35, none⟩ (.string G))) := lh (HE2.out.setCell (p := ⟨w.heap.size, 35, none⟩) (.inr (Nat.le_refl _)) _)
 clear hr2 hE2 hx2
 go_wp2_with (first | (refine wpList_load_row rfl _ _ rfl w.heap.size rfl _ E (0, 0) _ HX3.out Tryz.underlying47 rfl HES.out ?_) | (refine wpList_store_rowA rfl _ _ _ rfl (w.heap.size + 1) E rfl rfl _ _ HZ3.out HES.out (by rw [HZN.out]; exact HEN.out) HEO.out ?_) | fail)
 intro wf hwf
 go_wp2
 refine bodyPost_ret (v := .tuple #[.agg E, .int .i64 0]) (WireT.results_cell_slot rfl _ _ (w.heap.size + 1) 47 E (0, 0) _ rfl (by rw [hwf.out]; exact setRow_at HZ3.out) Tryz.underlying47 rfl HES.out rfl) rfl ⟨rfl, ?_, ?_⟩
 ·rw [hwf.out, setRow_far _ (by omega)]
  exact HR3.out
 ·rw [hwf.out]
  exact HE3.out.grown (row := some (w.heap.size + 1)) (EntW.grownBy_setRow _ _ _) (fun k hk => by cases hk; exact .inr (by omega))
theorem P_Verify (w : World) (p : Array Value) (r : ByteArray) (ep ix : Int) (pv : List UInt8) (s : ByteArray) (hp : HdP p r ep ix pv s) (hv : VarsI w) (hr : r.size ≤ 140737488351232) (hs : s.size ≤ maxLen) (hchk : checkH (hdOf r ep ix pv s) = true)
 (v : Value) (sv res : Int) (hB : ∀ w', Below w.heap.size w w' → Calls Tryz.prog 33 #[v, .int .i64 sv, .int .i64 ix, .string (bsOf (HdS.text (hdOf r ep ix pv s))), .string s] w' (KeyA.RB (.int .i64 res) w')) :
 Calls Tryz.prog 16 #[v, .int .i64 sv, .agg p] w (KeyA.RB (.int .i64 res) w) := by
 have hT := fun w hv => P_Text w p r ep ix pv s hp hv hr hs
 unfold HdS.textOf at hT
 rw [hchk] at hT
 rw [if_pos rfl] at hT
 have hR := HdS.check_iff.1 hchk
 have hi0 : 0 ≤ ix := hR.ix0
 have hi1 : ix ≤ 4096 := hR.ix1
 have hps := hp.size
 have hpi : (Tryz.prog.info? 47).map (·.size) = some 36 := by kernel_rfl
 rw [← hps] at hpi
 have HI := lh hpi
 have p2 := hp.c2
 have p35 : p[35]? = some (.string s) := by
  rw [hp.eq]
  unfold hdA
  have hl : (byV pv).length = 32 := by rw [byV_length, hp.len]
  simp [hl]
 have hwr : IntKind.i64.wrap ix = ix := by rw [IntKind.wrap_i64]; omega
 obtain ⟨T, hT2⟩ := nXe (bsOf (HdS.text (hdOf r ep ix pv s)))
 rw [← hT2] at hT hB
 obtain ⟨w0, hw0⟩ := nXe (w.alloc (.cells p 47))
 have hb0 : Below w.heap.size w w0 := by rw [hw0]; exact (Below.refl _ w).alloc (Nat.le_refl _) _
 have HX0 := lh (show w0.heap[w.heap.size]? = some (.cells p 47 (0, 0)) by rw [hw0]; exact heap_new _ _)
 have HBL0 := lh hb0
 have HW0 := lh hw0
 have HV0 := lh (hv.below hb0)
 have HT := lh hT
 have HB := lh hB
 clear hT hB hT2 hchk hR hr hs hp hb0 hv hw0 hpi hps
 go_enter Tryz.func16, Tryz.ntmps16
 go_wp2_with (first | (rw [← HW0.out]; refine wpList_load_row rfl _ _ rfl w.heap.size rfl _ p (0, 0) _ HX0.out Tryz.underlying47 rfl HI.out ?_) | fail)
 refine (HT.out w0 HV0.out).mono ?_
 rintro e' w1 ⟨rfl, hb⟩
 have HBL1 := tbB HBL0 hb
 have HX1 := kpB hb HX0
 clear hb
 have hc2 : w1.cell? ⟨w.heap.size, 2, none⟩ = some (.int .i64 ix) := by rw [cell_row HX1.out]; exact p2
 have hc35 : w1.cell? ⟨w.heap.size, 35, none⟩ = some (.string s) := by rw [cell_row HX1.out]; exact p35
 unfold whyOf
 go_wp2_with fail
 refine (HB.out w1 HBL1.out).mono ?_
 rintro e' w2 ⟨rfl, hb⟩
 have HBL2 := tbB HBL1 hb
 clear hb
 go_wp2
 go_ret
 exact ⟨rfl, HBL2.out⟩
end Go.Proofs.YtkcikadgnnjjjaaGreatDoor.HdT
namespace Go.Proofs.YtkcikadgnnjjjaaGreatDoor.EgS
open Go Go.RowKit Go.Shelf OctetS IdentS EntS OctP OctQ OctG IdentP EntP EventC ShaA Steps KeyA KeyS KeyI KeyK TreeA WireS WireT
theorem head_sign (w : World) (R : Nat) (sd : ByteArray) (h nx : Nat) (v : Value) (x : H32) (hsd : sd.size ≤ 64) (hh : h ≤ 7) (hn0 : nx ≤ 2 ^ h) (hr0 : w.heap[R]? = some (.cells (ringA sd h nx v x) 75 (0, 0)))
 (hv0 : Sl w v 32 (2 ^ h) ((leavesH (bl sd) (2 ^ h)).flatMap H32.cs)) (hvb : ∀ k, v.ownBlock = some k → k < w.heap.size) (hk : VarsH w)
 (p : Array Value) (r : ByteArray) (ep ix : Int) (pv : List UInt8) (s : ByteArray) (hp : HdP p r ep ix pv s) (hv : VarsI w) (hr : r.size ≤ 140737488351232) (hs : s.size ≤ maxLen) (S : ByteArray × Nat × Int) (hS0 : S = signS sd h nx (checkH (hdOf r ep ix pv s)) (HdS.text (hdOf r ep ix pv s)) s) :
 Calls Tryz.prog 18 #[.pointer (some ⟨R, 0, none⟩), .agg p] w fun e' w' => e' = .returned (.tuple #[.agg (hdA r ep ix pv S.1), .int .i64 S.2.2]) ∧
  w'.heap[R]? = some (.cells (ringA sd h S.2.1 v x) 75 (0, 0)) ∧ Ext (fun k => k = R) w w' := by
 unfold signS at hS0
 by_cases hyes : checkH (hdOf r ep ix pv s) = true ∧ nx < 2 ^ h
 ·obtain ⟨hc, hn⟩ := hyes
  rw [if_pos hc, if_neg (by omega)] at hS0
  subst hS0
  exact HdT.P_Sign w R sd h nx v x hsd hh hn hr0 hv0 hvb hk p r ep ix pv s hp hv hr hs hc
 have hT := fun w (hv : VarsI w) => HdT.P_Text w p r ep ix pv s hp hv hr hs
 unfold HdS.textOf at hT
 have hpi : (Tryz.prog.info? 47).map (·.size) = some p.size := by rw [hp.size]; kernel_rfl
 have HPN := lh (show 36 = p.size from (hp.size).symm)
 have HPO := lh (show p.all (·.oneCell') = true by rw [hp.eq]; exact hdA_one _ _ _ _ _)
 have HI := lh hpi
 obtain ⟨Z, hZ⟩ := nXe (zl3)
 have HLIT : Hid (zq3 Z) := lh hZ.symm
 have HZN : Hid (Z.size = 36) := lh (by rw [hZ]; rfl)
 have hlR := lt_row hr0
 have heq := hp.eq
 obtain ⟨w0, hw0⟩ := nXe ((w.alloc (.cells p 47)).alloc (.cells Z 47))
 have hb0 : Below w.heap.size w w0 := by rw [hw0]; exact ((Below.refl _ w).alloc (Nat.le_refl _) _).alloc (by simp) _
 have HX0 := lh (show w0.heap[w.heap.size]? = some (.cells p 47 (0, 0)) by rw [hw0]; exact heap_at (heap_new _ _) _)
 have HZ0 := lh (show w0.heap[w.heap.size + 1]? = some (.cells Z 47 (0, 0)) by rw [hw0]; exact heap_new' _ (by simp))
 have HBL0 := lh hb0
 have HW0 := lh hw0
 have HV0 := lh (hv.below hb0)
 have HR0 := lh hr0
 cases hc : checkH (hdOf r ep ix pv s)
 ·rw [hc, if_neg (by simp)] at hS0
  rw [hc, if_neg (by simp)] at hT
  subst hS0
  show Calls _ _ _ _ fun e' w' => e' = .returned (.tuple #[.agg (hdA r ep ix pv s), .int .i64 2]) ∧ w'.heap[R]? = some (.cells (ringA sd h nx v x) 75 (0, 0)) ∧ Ext (fun k => k = R) w w'
  rw [← heq]
  have HT := lh hT
  clear hT hc hp hr hs hpi hb0 hv hw0 hv0 hr0 hk hvb hZ heq hyes
  go_enter Tryz.func18, Tryz.ntmps18
  go_wp2_with (first | (rw [HLIT.out, ← HW0.out]; refine wpList_load_row rfl _ _ rfl w.heap.size rfl _ p (0, 0) _ HX0.out Tryz.underlying47 rfl HI.out ?_) | fail)
  refine (HT.out w0 HV0.out).mono ?_
  rintro e' w1 ⟨rfl, hb⟩
  have HBL1 := tbB HBL0 hb
  have HX1 := kpB hb HX0
  have HZ1 := kpB hb HZ0
  clear hb
  unfold whyOf
  go_wp2_with (first | (refine wpList_load_row rfl _ _ rfl w.heap.size rfl _ p (0, 0) _ HX1.out Tryz.underlying47 rfl HI.out ?_) | (refine wpList_store_rowA rfl _ _ _ rfl (w.heap.size + 1) p rfl rfl _ _ HZ1.out HI.out (by rw [HZN.out]; exact HPN.out) HPO.out ?_) | fail)
  intro wf hwf
  go_wp2
  refine bodyPost_ret (v := .tuple #[.agg p, .int .i64 2]) (WireT.results_cell_slot rfl _ _ (w.heap.size + 1) 47 p (0, 0) _ rfl (by rw [hwf.out]; exact setRow_at HZ1.out) Tryz.underlying47 rfl HI.out rfl) rfl ⟨rfl, ?_, ?_⟩
  ·rw [hwf.out, setRow_far _ (by omega)]
   exact (HBL1.out.block _ hlR).trans HR0.out
  ·rw [hwf.out]
   exact (Ext.of_below HBL1.out).grown (row := some (w.heap.size + 1)) (EntW.grownBy_setRow _ _ _) (fun k hk => by cases hk; exact .inr (by omega))
 ·have hnx : nx = 2 ^ h := by
   have : ¬ nx < 2 ^ h := fun h1 => hyes ⟨hc, h1⟩
   omega
  rw [hc, if_pos rfl, if_pos hnx] at hS0
  rw [hc, if_pos rfl] at hT
  subst hS0
  show Calls _ _ _ _ fun e' w' => e' = .returned (.tuple #[.agg (hdA r ep ix pv s), .int .i64 10]) ∧ w'.heap[R]? = some (.cells (ringA sd h nx v x) 75 (0, 0)) ∧ Ext (fun k => k = R) w w'
  rw [← heq]
  obtain ⟨Tx, hTx⟩ := nXe (bsOf (HdS.text (hdOf r ep ix pv s)))
  rw [← hTx] at hT
  have hS := fun w' (hb : Below w.heap.size w w') => PkS.Sign_over w' R sd Tx h v x _ hh (by rw [← hnx]; exact (hb.block _ hlR).trans hr0) (hv0.below hb)
  have HT := lh hT
  have HS := lh hS
  clear hT hS hTx hc hp hr hs hpi hb0 hv hw0 hv0 hr0 hk hvb hZ heq hyes hnx
  go_enter Tryz.func18, Tryz.ntmps18
  go_wp2_with (first | (rw [HLIT.out, ← HW0.out]; refine wpList_load_row rfl _ _ rfl w.heap.size rfl _ p (0, 0) _ HX0.out Tryz.underlying47 rfl HI.out ?_) | fail)
  refine (HT.out w0 HV0.out).mono ?_
  rintro e' w1 ⟨rfl, hb⟩
  have HBL1 := tbB HBL0 hb
  have HX1 := kpB hb HX0
  have HZ1 := kpB hb HZ0
  clear hb
  unfold whyOf
  go_wp2_with fail
  refine (HS.out w1 HBL1.out).mono ?_
  rintro e' w2 ⟨rfl, hb⟩
  have HBL2 := tbB HBL1 hb
  have HX2 := kpB hb HX1
  have HZ2 := kpB hb HZ1
  clear hb
  go_wp2_with (first | (refine wpList_load_row rfl _ _ rfl w.heap.size rfl _ p (0, 0) _ HX2.out Tryz.underlying47 rfl HI.out ?_) | (refine wpList_store_rowA rfl _ _ _ rfl (w.heap.size + 1) p rfl rfl _ _ HZ2.out HI.out (by rw [HZN.out]; exact HPN.out) HPO.out ?_) | fail)
  intro wf hwf
  go_wp2
  refine bodyPost_ret (v := .tuple #[.agg p, .int .i64 10]) (WireT.results_cell_slot rfl _ _ (w.heap.size + 1) 47 p (0, 0) _ rfl (by rw [hwf.out]; exact setRow_at HZ2.out) Tryz.underlying47 rfl HI.out rfl) rfl ⟨rfl, ?_, ?_⟩
  ·rw [hwf.out, setRow_far _ (by omega)]
   exact (HBL2.out.block _ hlR).trans HR0.out
  ·rw [hwf.out]
   exact (Ext.of_below HBL2.out).grown (row := some (w.heap.size + 1)) (EntW.grownBy_setRow _ _ _) (fun k hk => by cases hk; exact .inr (by omega))
end Go.Proofs.YtkcikadgnnjjjaaGreatDoor.EgS
namespace Go.Proofs.YtkcikadgnnjjjaaGreatDoor.EgR
open Go Go.RowKit Go.Shelf OctetS IdentS EntS OctP OctQ OctG IdentP EntP EventC ShaA Steps KeyA TreeA WireS WireT BookA BkF RkJ
theorem head2_any (w : World) (p : Array Value) (r : ByteArray) (ep ix : Int) (pv : List UInt8) (s : ByteArray) (hp : HdP p r ep ix pv s) (hr : r.size ≤ 140737488351232) (hs : s.size ≤ maxLen) (v : Value) (sv : Int) (L : List Gr') (hb : Sl w v 36 L.length (L.flatMap Gr'.cs)) :
 Calls Tryz.prog 17 #[v, .int .i64 sv, .agg p] w (KeyA.RB (.int .i64 (if checkH (hdOf r ep ix pv s) = true then verifyB L sv ix (HdS.text (hdOf r ep ix pv s)) (bl s) else 2)) w) := by
 have hT := fun w => HdT.R_Text w p r ep ix pv s hp hr hs
 have hpi : (Tryz.prog.info? 47).map (·.size) = some p.size := by rw [hp.size]; kernel_rfl
 have HI := lh hpi
 have p2 : p[2]? = some (.int .i64 ix) := hp.c2
 have p35 : p[35]? = some (.string s) := hp.c35
 obtain ⟨w0, hw0⟩ := nXe (w.alloc (.cells p 47))
 have hb0 : Below w.heap.size w w0 := by rw [hw0]; exact (Below.refl _ w).alloc (Nat.le_refl _) _
 have HX0 := lh (show w0.heap[w.heap.size]? = some (.cells p 47 (0, 0)) by rw [hw0]; exact heap_new _ _)
 have HBL0 := lh hb0
 have HW0 := lh hw0
 have hV := fun w' (hw : Below w.heap.size w w') (ht : (bsOf (HdS.text (hdOf r ep ix pv s))).size ≤ 140737488351232) => RkJ.Verify2_ok w' v L sv ix (bsOf (HdS.text (hdOf r ep ix pv s))) s (hb.below hw) ht hs
 clear hw0 hb0
 unfold HdS.textOf at hT
 cases hc : checkH (hdOf r ep ix pv s)
 ·rw [if_neg (by simp)]
  rw [hc, if_neg (by simp)] at hT
  have HT := lh hT
  clear hT hc hp hr hs hpi hb hV p2 p35
  go_enter Tryz.func17, Tryz.ntmps17
  go_wp2_with (first | (rw [← HW0.out]; refine wpList_load_row rfl _ _ rfl w.heap.size rfl _ p (0, 0) _ HX0.out Tryz.underlying47 rfl HI.out ?_) | fail)
  refine (HT.out w0).mono ?_
  rintro e' w1 ⟨rfl, hb⟩
  have HBL1 := tbB HBL0 hb
  have HX1 := kpB hb HX0
  clear hb
  unfold whyOf
  go_wp2
  go_ret
  exact ⟨rfl, HBL1.out⟩
 ·rw [if_pos rfl]
  rw [hc, if_pos rfl] at hT
  have hlen : (bsOf (HdS.text (hdOf r ep ix pv s))).size ≤ 140737488351232 := by rw [size_bsOf]; have := HdT.hd_len (HdS.check_iff.1 hc) hp.len; omega
  have hR := HdS.check_iff.1 hc
  obtain ⟨TX, hTX⟩ := nXe (bsOf (HdS.text (hdOf r ep ix pv s)))
  have hV2 := fun w' hw => hV w' hw hlen
  rw [bl_bsOf] at hV2
  obtain ⟨RES, hRES⟩ := nXe (verifyB L sv ix (HdS.text (hdOf r ep ix pv s)) (bl s))
  rw [← hRES] at hV2 ⊢
  rw [← hTX] at hV2 hT
  have HT := lh hT
  have HVV := lh hV2
  have hix0 : 0 ≤ ix := hR.ix0
  have hix1 : ix ≤ 4096 := hR.ix1
  have hwr : IntKind.i64.wrap ix = ix := by rw [IntKind.wrap_i64]; omega
  clear hT hV hV2 hc hp hr hs hpi hb hlen hTX hRES hR
  go_enter Tryz.func17, Tryz.ntmps17
  go_wp2_with (first | (rw [← HW0.out]; refine wpList_load_row rfl _ _ rfl w.heap.size rfl _ p (0, 0) _ HX0.out Tryz.underlying47 rfl HI.out ?_) | fail)
  refine (HT.out w0).mono ?_
  rintro e' w1 ⟨rfl, hb⟩
  have HBL1 := tbB HBL0 hb
  have HX1 := kpB hb HX0
  clear hb
  have c2 : w1.cell? ⟨w.heap.size, 2, none⟩ = some (.int .i64 ix) := (cell_row HX1.out).trans p2
  have c35 : w1.cell? ⟨w.heap.size, 35, none⟩ = some (.string s) := (cell_row HX1.out).trans p35
  unfold whyOf
  go_wp2_with fail
  refine (HVV.out w1 HBL1.out).mono ?_
  rintro e' w2 ⟨rfl, hb⟩
  have HBL2 := tbB HBL1 hb
  clear hb
  go_wp2
  go_ret
  exact ⟨rfl, HBL2.out⟩
end Go.Proofs.YtkcikadgnnjjjaaGreatDoor.EgR
