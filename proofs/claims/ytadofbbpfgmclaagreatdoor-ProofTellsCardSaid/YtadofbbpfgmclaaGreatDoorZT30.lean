/-
  WHAT IS PROVED: contracts of functions, and plain laws. Condition: what each theorem names.
-/
import Derived.Test.YtadofbbpfgmclaaGreatDoorS0
import Derived.Test.YtadofbbpfgmclaaGreatDoorZT29
set_option linter.unusedVariables false
set_option linter.unusedSimpArgs false
set_option maxRecDepth 100000
set_option maxHeartbeats 4000000
namespace Go.Proofs.YtadofbbpfgmclaaGreatDoor.LZ
open Go.Proofs.Tryz hiding parts
open Go Go.RowKit Go.Shelf OctetS IdentS EntS OctP OctQ EventP EventC EntP
theorem Es (w : World) (p : Array Value) (r : ByteArray) (ep ix : Int) (pv : List UInt8) (e s : ByteArray) (hp : EntP p r ep ix pv e s) (hr : r.size ≤ 140737488351232) (he : e.size ≤ maxLen) (hs : s.size ≤ maxLen) :
 Calls Tryz.prog 52 #[.agg p] w (RB (.int .i64 (Ci (EntS.A9 (Bc r ep ix pv e s)))) w) := by
 unfold maxLen at he hs
 rw [chk_eq]
 obtain ⟨rn, hR⟩ := LY.IJ r hr
 obtain ⟨rb, hrb⟩ := nXe (DU (bl r))
 rw [← hrb] at hR ⊢
 clear hrb
 obtain ⟨y, hy⟩ := nXe (Ci (rb && (Bw ep && (Bw ix && (decide (e.size ≤ 8192) && decide (s.size ≤ 8192))))))
 rw [← hy]
 have Hy0 := lh hy
 clear hy
 have p0 := hp.c0
 have p1 := hp.c1
 have p2 := hp.c2
 have p35 := hp.c35
 have p36 := hp.c36
 obtain ⟨w0, hw0⟩ := nXe (w.alloc (.cells p 51))
 have hb0 : Below w.heap.size w w0 := by rw [hw0]; exact ((Below.refl _ w).alloc nR _)
 have hx0 : w0.heap[w.heap.size]? = some (.cells p 51 (0, 0)) := by rw [hw0]; exact AL _ _
 obtain ⟨HBL0, HW0⟩ := l2h hb0 hw0
 have lx0 := AB hx0
 obtain ⟨cx0, fx0⟩ := AJ hx0
 have HR := lh hR
 clear hR hb0 hw0 hr hp
 have hcase : rb = false ∨ rb = true := by cases rb <;> simp
 rcases hcase with rfl | rfl
 all_goals
  go_enter func52, ntmps52
  go_wp2_with fail
  rw [← HW0.out]
  refine (HR.out w0).mono ?_
  rintro e w1 ⟨rfl, hb⟩
  have HBL1 := tbB HBL0 hb
  have hx1 := (hb.block _ lx0).trans hx0
  have lx1 := AB hx1
  obtain ⟨cx1, fx1⟩ := AJ hx1
  clear hb hx0 cx0 fx0
 ·go_wp2
  go_ret
  exact ⟨by rw [Hy0.out]; rfl, HBL1.out⟩
 ·have hy' : (0 ≤ ep ∧ ep ≤ 4096 ∧ 0 ≤ ix ∧ ix ≤ 4096 ∧ e.size ≤ 8192 ∧ s.size ≤ 8192 ∧ y = 0) ∨ (¬ (0 ≤ ep ∧ ep ≤ 4096 ∧ 0 ≤ ix ∧ ix ≤ 4096 ∧ e.size ≤ 8192 ∧ s.size ≤ 8192) ∧ y = 2) := by
   rw [Hy0.out]
   unfold Ci Bw
   simp only [Bool.true_and, Bool.and_eq_true, decide_eq_true_eq]
   by_cases h : 0 ≤ ep ∧ ep ≤ 4096 ∧ 0 ≤ ix ∧ ix ≤ 4096 ∧ e.size ≤ 8192 ∧ s.size ≤ 8192
   ·rw [if_pos ⟨⟨h.1, h.2.1⟩, ⟨h.2.2.1, h.2.2.2.1⟩, h.2.2.2.2⟩]
    exact .inl ⟨h.1, h.2.1, h.2.2.1, h.2.2.2.1, h.2.2.2.2.1, h.2.2.2.2.2, rfl⟩
   ·rw [if_neg (fun h' => h ⟨h'.1.1, h'.1.2, h'.2.1.1, h'.2.1.2, h'.2.2⟩)]
    exact .inr ⟨h, rfl⟩
  have Hy := lh hy'
  clear hy'
  go_wp2
  all_goals
   go_ret
   refine ⟨?_, HBL1.out⟩
   have hy := Hy.out
   first
        | (obtain rfl : y = 0 := by omega
           rfl)
        | (obtain rfl : y = 2 := by omega
           rfl)
theorem Cs (w : World) (p : Array Value) (r : ByteArray) (ep ix : Int) (pv : List UInt8) (e s : ByteArray) (hp : EntP p r ep ix pv e s) (hr : r.size ≤ 140737488351232) (he : e.size ≤ maxLen) (hs : s.size ≤ maxLen) :
 Calls Tryz.prog 78 #[.agg p] w (RB (.tuple #[.string (bsOf (EntS.textOf (Bc r ep ix pv e s))), .int .i64 (Ci (EntS.A9 (Bc r ep ix pv e s)))]) w) := by
 have hC := fun w => Es w p r ep ix pv e s hp hr he hs
 have p0 := hp.c0
 have p1 := hp.c1
 have p2 := hp.c2
 have p35 := hp.c35
 have hps := hp.size
 have hpi : (Tryz.prog.info? 51).map (·.size) = some 37 := by kernel_rfl
 rw [← hps] at hpi
 have HI := lh hpi
 clear hpi hps
 obtain ⟨w0, hw0⟩ := nXe (w.alloc (.cells p 51))
 have hb0 : Below w.heap.size w w0 := by rw [hw0]; exact ((Below.refl _ w).alloc nR _)
 have hx0 : w0.heap[w.heap.size]? = some (.cells p 51 (0, 0)) := by rw [hw0]; exact AL _ _
 obtain ⟨HBL0, HW0⟩ := l2h hb0 hw0
 have lx0 := AB hx0
 obtain ⟨cx0, fx0⟩ := AJ hx0
 unfold EntS.textOf
 unfold maxLen at he hs
 obtain ⟨HP, Hx0⟩ := l2h hp hx0
 cases hchk : EntS.A9 (Bc r ep ix pv e s)
 ·skip
  rw [hchk] at hC
  have HC := lh hC
  clear hC hchk hr he hs hp hb0 hw0
  go_enter func78, ntmps78
  go_wp2_with (first | (rw [← HW0.out]; refine wpList_load_row rfl _ _ rfl w.heap.size rfl _ p (0, 0) _ Hx0.out underlying51 rfl HI.out ?_) | fail)
  refine (HC.out w0).mono ?_
  rintro e' w1 ⟨rfl, hb⟩
  have HBL1 := tbB HBL0 hb
  have hx1 := (hb.block _ lx0).trans hx0
  have lx1 := AB hx1
  obtain ⟨cx1, fx1⟩ := AJ hx1
  clear hb hx0 cx0 fx0
  unfold Ci
  go_wp2
  go_ret2
  exact ⟨rfl, HBL1.out⟩
 ·skip
  have hR := EntS.BV.1 hchk
  have h0 := hR.ep0
  have h1 := hR.ep1
  have h2 := hR.ix0
  have h3 := hR.ix1
  have hfit := hR.fits hp.len
  simp only [Bc] at h0 h1 h2 h3
  obtain ⟨m, rfl⟩ : ∃ m : Nat, ep = m := ⟨ep.toNat, by omega⟩
  obtain ⟨j, rfl⟩ : ∃ j : Nat, ix = j := ⟨ix.toNat, by omega⟩
  have hparts : EntS.parts (Bc r m j pv e s) = [bsOf EntS.mark, r, bsOf (num m), bsOf (num j), bsOf pv, e].map bl := by
   simp [EntS.parts, Bc, AU]
  have hfin : EntS.text (Bc r m j pv e s) = OctetS.list ([bsOf EntS.mark, r, bsOf (num m), bsOf (num j), bsOf pv, e].map bl) := by
   unfold EntS.text
   rw [hparts]
  rw [if_pos rfl, hfin]
  rw [hparts] at hfit
  have hL := fun w v h => Kn.Gd w v [bsOf EntS.mark, r, bsOf (num m), bsOf (num j), bsOf pv, e] h hfit
  rw [hchk] at hC
  obtain ⟨out, hout⟩ := nXe (bsOf (OctetS.list ([bsOf EntS.mark, r, bsOf (num m), bsOf (num j), bsOf pv, e].map bl)))
  obtain ⟨n1, hn1⟩ := nXe (bsOf (num m))
  obtain ⟨n2, hn2⟩ := nXe (bsOf (num j))
  obtain ⟨q, hq⟩ := nXe (bsOf pv)
  have hN1 := fun w => Iq.EW w m (by unfold Av; omega)
  have hN2 := fun w => Iq.EW w j (by unfold Av; omega)
  rw [← hn1] at hN1
  rw [← hn2] at hN2
  rw [← hout]
  rw [← hout, ← hn1, ← hn2, ← hq] at hL
  obtain ⟨HC, HN1, HN2, HL, HQ⟩ := l5h hC hN1 hN2 hL hq
  clear hC hN1 hN2 hL hn1 hn2 hout hfin hparts hfit hR hchk hq hr he hs hp hb0 hw0
  go_enter func78, ntmps78
  go_wp2_with (first | (rw [← HW0.out]; refine wpList_load_row rfl _ _ rfl w.heap.size rfl _ p (0, 0) _ Hx0.out underlying51 rfl HI.out ?_) | fail)
  refine (HC.out w0).mono ?_
  rintro e' w1 ⟨rfl, hb⟩
  have HBL1 := tbB HBL0 hb
  have hx1 := (hb.block _ lx0).trans hx0
  have lx1 := AB hx1
  obtain ⟨cx1, fx1⟩ := AJ hx1
  clear hb hx0 cx0 fx0
  unfold Ci
  go_wp2_with fail
  refine (HN1.out w1).mono ?_
  rintro e w2 ⟨rfl, hb⟩
  have HBL2 := tbB HBL1 hb
  have hx2 := (hb.block _ lx1).trans hx1
  have lx2 := AB hx2
  obtain ⟨cx2, fx2⟩ := AJ hx2
  clear hb hx1 cx1 fx1
  go_wp2_with fail
  refine (HN2.out w2).mono ?_
  rintro e w3 ⟨rfl, hb⟩
  have HBL3 := tbB HBL2 hb
  have hx3 := (hb.block _ lx2).trans hx2
  have lx3 := AB hx3
  obtain ⟨cx3, fx3⟩ := AJ hx3
  clear hb hx2 cx2 fx2
  go_wp2_with fail
  refine wp_region_noPanic ?_
  refine Wr.BJ (S := (fun W => W.heap[w.heap.size]? = some (.cells p 51 (0, 0)))) (K := []) (by kernel_rfl) ?_
  change Wr.Aq _ _ _ _ _ _ _ _ _ (World.drew w3)
  have hS0 : (World.drew w3).heap[w.heap.size]? = some (.cells p 51 (0, 0)) := hx3
  have hBL0 : Below w3.heap.size w3 (World.drew w3) := Bl.drew (Below.refl _ _)
  refine Wr.tkK (i := 0) (v := ?_) rfl (.inl ⟨by rfl, ?_⟩) hS0 ?_
  rotate_left
  ·intro wq hSw
   have q0 := hSw
   obtain ⟨qc0, qf0⟩ := AJ q0
   go_simp
   rfl
  simp only [Act.put, sxx]
  refine Wr.tkK (i := 1) (v := ?_) rfl (.inl ⟨by rfl, ?_⟩) hS0 ?_
  rotate_left
  ·intro wq hSw
   have q0 := hSw
   obtain ⟨qc0, qf0⟩ := AJ q0
   go_simp
   rfl
  simp only [Act.put, sxx]
  refine Wr.tkK (i := 2) (v := ?_) rfl (.inl ⟨by rfl, ?_⟩) hS0 ?_
  rotate_left
  ·intro wq hSw
   have q0 := hSw
   obtain ⟨qc0, qf0⟩ := AJ q0
   go_simp
   rfl
  simp only [Act.put, sxx]
  refine Wr.tkK (i := 3) (v := ?_) rfl (.inl ⟨by rfl, ?_⟩) hS0 ?_
  rotate_left
  ·intro wq hSw
   have q0 := hSw
   obtain ⟨qc0, qf0⟩ := AJ q0
   go_simp
   rfl
  simp only [Act.put, sxx]
  refine Wr.tkK (i := 4) (v := ?_) rfl (.inl ⟨by rfl, ?_⟩) hS0 ?_
  rotate_left
  ·intro wq hSw
   have q0 := hSw
   obtain ⟨qc0, qf0⟩ := AJ q0
   go_simp
   rfl
  simp only [Act.put, sxx]
  refine Wr.tkK (i := 5) (v := ?_) rfl (.inl ⟨by rfl, ?_⟩) hS0 ?_
  rotate_left
  ·intro wq hSw
   have q0 := hSw
   obtain ⟨qc0, qf0⟩ := AJ q0
   go_simp
   rfl
  simp only [Act.put, sxx]
  refine Wr.tkK (i := 6) (v := (.string q)) rfl (.inl ⟨by rfl, ?_⟩) hS0 ?_
  ·intro wq hSw
   have q0 := hSw
   obtain ⟨qc0, qf0⟩ := AJ q0
   have hcv := Bd wq 78 9 5 underlying78 underlying5 underlying9 _ _ (HP.out.sl q0)
   rw [← HQ.out] at hcv
   go_simp
  simp only [Act.put, sxx]
  refine Wr.tkK (i := 7) (v := ?_) rfl (.inl ⟨by rfl, ?_⟩) hS0 ?_
  rotate_left
  ·intro wq hSw
   have q0 := hSw
   obtain ⟨qc0, qf0⟩ := AJ q0
   go_simp
   rfl
  simp only [Act.put, sxx]
  refine Wr.tkK (i := 8) (v := ?_) rfl (.inl ⟨by rfl, ?_⟩) hS0 ?_
  rotate_left
  ·intro wq hSw
   have q0 := hSw
   obtain ⟨qc0, qf0⟩ := AJ q0
   go_simp
   rfl
  simp only [Act.put, sxx]
  refine Wr.Ac (i := 9) (by kernel_rfl) ?_
  refine Au rfl (by rfl) (w' := (World.drew w3).alloc (.cells #[.string ⟨#[101, 110, 116, 114, 121]⟩, .string r, .string n1, .string n2, .string q, .string e] 9)) (v := .slice (some ⟨(World.drew w3).heap.size, 0, none⟩) 6 6) (by go_simp; first | done | rfl) ?_
  obtain ⟨w6, hw_w6⟩ := nXe ((World.drew w3).alloc (.cells #[.string ⟨#[101, 110, 116, 114, 121]⟩, .string r, .string n1, .string n2, .string q, .string e] 9))
  rw [← hw_w6]
  have hb_w6 : Below (World.drew w3).heap.size (World.drew w3) w6 := by rw [hw_w6]; exact bAx
  have hn_w6 : w6.heap[(World.drew w3).heap.size]? = some (.cells #[.string ⟨#[101, 110, 116, 114, 121]⟩, .string r, .string n1, .string n2, .string q, .string e] 9 (0, 0)) := by rw [hw_w6]; exact Ah _ rfl
  have hS1 : w6.heap[w.heap.size]? = some (.cells p 51 (0, 0)) := (hb_w6.block _ (AB (hS0))).trans (hS0)
  have hBL1 : Below w3.heap.size w3 w6 := hBL0.trans (hb_w6.mono hBL0.size)
  clear hw_w6
  refine ⟨hS1, ?_⟩
  simp only [Act.put, sxx]
  refine Wr.Ac (i := 10) (by kernel_rfl) ?_
  refine BO rfl (by rfl) (by go_simp; all_goals (and_intros <;> rfl)) ?_
  refine (HL.out w6 _ (EventB.Dz hn_w6 rfl (by simp [maxLen]))).mono ?_
  rintro e w7 ⟨rfl, hb_w7⟩
  have hS2 : w7.heap[w.heap.size]? = some (.cells p 51 (0, 0)) := (hb_w7.block _ (AB (hS1))).trans (hS1)
  have hBL2 : Below w3.heap.size w3 w7 := hBL1.trans (hb_w7.mono hBL1.size)
  refine ⟨_, rfl, ?_, ?_⟩
  ·exact hS2
  simp only [Act.put, sxx]
  refine Wr.tkK (i := 11) (v := ?_) rfl (.inl ⟨by rfl, ?_⟩) hS2 ?_
  rotate_left
  ·intro wq hSw
   have q0 := hSw
   obtain ⟨qc0, qf0⟩ := AJ q0
   go_simp
   rfl
  simp only [Act.put, sxx]
  refine Wr.tkK (i := 12) (v := ?_) rfl (.inl ⟨by rfl, ?_⟩) hS2 ?_
  rotate_left
  ·intro wq hSw
   have q0 := hSw
   obtain ⟨qc0, qf0⟩ := AJ q0
   go_simp
   rfl
  simp only [Act.put, sxx]
  refine Wr.tkK (i := 13) (v := ?_) rfl (.inl ⟨by rfl, ?_⟩) hS2 ?_
  rotate_left
  ·intro wq hSw
   have q0 := hSw
   obtain ⟨qc0, qf0⟩ := AJ q0
   go_simp
   rfl
  simp only [Act.put, sxx]
  refine Wr.tkK (i := 14) (v := ?_) rfl (.inl ⟨by rfl, ?_⟩) hS2 ?_
  rotate_left
  ·intro wq hSw
   have q0 := hSw
   obtain ⟨qc0, qf0⟩ := AJ q0
   go_simp
   rfl
  simp only [Act.put, sxx]
  refine Wr.Ai (by kernel_rfl) (NoPanic.normal ?_) _
  go_wp2
  go_ret2
  exact ⟨rfl, HBL3.out.trans (hBL2.mono HBL3.out.size)⟩
end Go.Proofs.YtadofbbpfgmclaaGreatDoor.LZ
