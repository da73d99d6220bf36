/-
  WHAT IS PROVED: by the document an entry is right or not, and what is signed. how any entry, head, or deal is signed by any ring, by the program. whether any entry, head, or deal is verified by any book, by the document. how any entry, head, or deal is signed by any ring, by the document. whether any entry, head, or deal is verified by any book, by the program. Condition: what each theorem names.
-/
import Derived.Test.YtkcikadgnnjjjaaGreatDoorS0
import Derived.Test.YtkcikadgnnjjjaaGreatDoorZEHD13
import Derived.Test.YtkcikadgnnjjjaaGreatDoorZEHD24
import Derived.Test.YtkcikadgnnjjjaaGreatDoorZE37
set_option linter.unusedVariables false
set_option linter.unusedSimpArgs false
set_option maxRecDepth 100000
set_option maxHeartbeats 4000000
namespace Go.Proofs.YtkcikadgnnjjjaaGreatDoor.EntR
open Go Go.RowKit Go.Shelf OctetS IdentS EntS OctP OctQ EventP EventC EntP
theorem Check_ok (w : World) (p : Array Value) (r : ByteArray) (ep ix : Int) (pv : List UInt8) (e s : ByteArray) (hp : EntP p r ep ix pv e s) (hr : r.size ≤ 140737488351232) (he : e.size ≤ maxLen) (hs : s.size ≤ maxLen) :
 Calls Tryz.prog 68 #[.agg p] w (RB (.int .i64 (whyOf (EntS.checkB (entOf r ep ix pv e s)))) w) := by
 unfold maxLen at he hs
 rw [chk_eq]
 obtain ⟨rn, hR⟩ := EvRC.room_at r hr
 obtain ⟨rb, hrb⟩ := nXe (roomB (bl r))
 rw [← hrb] at hR ⊢
 clear hrb
 obtain ⟨y, hy⟩ := nXe (whyOf (rb && (placeB ep && (placeB ix && (decide (e.size ≤ 8192) && decide (s.size ≤ 8192))))))
 rw [← hy]
 have Hy0 := lh hy
 clear hy
 have p0 := hp.c0
 have p1 := hp.c1
 have p2 := hp.c2
 have p35 := hp.c35
 have p36 := hp.c36
 obtain ⟨w0, hw0⟩ := nXe (w.alloc (.cells p 27))
 have hb0 : Below w.heap.size w w0 := by rw [hw0]; exact ((Below.refl _ w).alloc (Nat.le_refl _) _)
 have hx0 : w0.heap[w.heap.size]? = some (.cells p 27 (0, 0)) := by rw [hw0]; exact heap_new _ _
 have HBL0 := lh hb0
 have HW0 := lh hw0
 have lx0 := lt_row hx0
 obtain ⟨cx0, fx0⟩ := row_facts hx0
 have HR := lh hR
 clear hR hb0 hw0 hr hp
 have hcase : rb = false ∨ rb = true := by cases rb <;> simp
 rcases hcase with rfl | rfl
 all_goals
  go_enter Tryz.func68, Tryz.ntmps68
  go_wp2_with fail
  rw [← HW0.out]
  refine (HR.out w0).mono ?_
  rintro e w1 ⟨rfl, hb⟩
  have HBL1 := tbB HBL0 hb
  have hx1 := (hb.block _ lx0).trans hx0
  have lx1 := lt_row hx1
  obtain ⟨cx1, fx1⟩ := row_facts hx1
  clear hb hx0 cx0 fx0
 ·go_wp2
  go_ret
  exact ⟨by rw [Hy0.out]; rfl, HBL1.out⟩
 ·have hy' : (0 ≤ ep ∧ ep ≤ 4096 ∧ 0 ≤ ix ∧ ix ≤ 4096 ∧ e.size ≤ 8192 ∧ s.size ≤ 8192 ∧ y = 0) ∨ (¬ (0 ≤ ep ∧ ep ≤ 4096 ∧ 0 ≤ ix ∧ ix ≤ 4096 ∧ e.size ≤ 8192 ∧ s.size ≤ 8192) ∧ y = 2) := by
   rw [Hy0.out]
   unfold whyOf placeB
   simp only [Bool.true_and, Bool.and_eq_true, decide_eq_true_eq]
   by_cases h : 0 ≤ ep ∧ ep ≤ 4096 ∧ 0 ≤ ix ∧ ix ≤ 4096 ∧ e.size ≤ 8192 ∧ s.size ≤ 8192
   ·rw [if_pos ⟨⟨h.1, h.2.1⟩, ⟨h.2.2.1, h.2.2.2.1⟩, h.2.2.2.2⟩]
    exact .inl ⟨h.1, h.2.1, h.2.2.1, h.2.2.2.1, h.2.2.2.2.1, h.2.2.2.2.2, rfl⟩
   ·rw [if_neg (fun h' => h ⟨h'.1.1, h'.1.2, h'.2.1.1, h'.2.1.2, h'.2.2⟩)]
    exact .inr ⟨h, rfl⟩
  have Hy := lh hy'
  clear hy'
  go_wp2
  all_goals
   go_ret
   refine ⟨?_, HBL1.out⟩
   have hy := Hy.out
   first
        | (obtain rfl : y = 0 := by omega
           rfl)
        | (obtain rfl : y = 2 := by omega
           rfl)
theorem Text_ok (w : World) (p : Array Value) (r : ByteArray) (ep ix : Int) (pv : List UInt8) (e s : ByteArray) (hp : EntP p r ep ix pv e s) (hr : r.size ≤ 140737488351232) (he : e.size ≤ maxLen) (hs : s.size ≤ maxLen) :
 Calls Tryz.prog 34 #[.agg p] w (RB (.tuple #[.string (bsOf (EntS.textOf (entOf r ep ix pv e s))), .int .i64 (whyOf (EntS.checkB (entOf r ep ix pv e s)))]) w) := by
 have hC := fun w => Check_ok w p r ep ix pv e s hp hr he hs
 have p0 := hp.c0
 have p1 := hp.c1
 have p2 := hp.c2
 have p35 := hp.c35
 have hps := hp.size
 have hpi : (Tryz.prog.info? 27).map (·.size) = some 37 := by kernel_rfl
 rw [← hps] at hpi
 have HI := lh hpi
 clear hpi hps
 obtain ⟨w0, hw0⟩ := nXe (w.alloc (.cells p 27))
 have hb0 : Below w.heap.size w w0 := by rw [hw0]; exact ((Below.refl _ w).alloc (Nat.le_refl _) _)
 have hx0 : w0.heap[w.heap.size]? = some (.cells p 27 (0, 0)) := by rw [hw0]; exact heap_new _ _
 have HBL0 := lh hb0
 have HW0 := lh hw0
 have lx0 := lt_row hx0
 obtain ⟨cx0, fx0⟩ := row_facts hx0
 unfold EntS.textOf
 unfold maxLen at he hs
 have HP := lh hp
 have Hx0 := lh hx0
 cases hchk : EntS.checkB (entOf r ep ix pv e s)
 ·skip
  rw [hchk] at hC
  have HC := lh hC
  clear hC hchk hr he hs hp hb0 hw0
  go_enter Tryz.func34, Tryz.ntmps34
  go_wp2_with (first | (rw [← HW0.out]; refine wpList_load_row rfl _ _ rfl w.heap.size rfl _ p (0, 0) _ Hx0.out Tryz.underlying27 rfl HI.out ?_) | fail)
  refine (HC.out w0).mono ?_
  rintro e' w1 ⟨rfl, hb⟩
  have HBL1 := tbB HBL0 hb
  have hx1 := (hb.block _ lx0).trans hx0
  have lx1 := lt_row hx1
  obtain ⟨cx1, fx1⟩ := row_facts hx1
  clear hb hx0 cx0 fx0
  unfold whyOf
  go_wp2
  go_ret2
  exact ⟨rfl, HBL1.out⟩
 ·skip
  have hR := EntS.check_iff.1 hchk
  have h0 := hR.ep0
  have h1 := hR.ep1
  have h2 := hR.ix0
  have h3 := hR.ix1
  have hfit := hR.fits hp.len
  simp only [entOf] at h0 h1 h2 h3
  obtain ⟨m, rfl⟩ : ∃ m : Nat, ep = m := ⟨ep.toNat, by omega⟩
  obtain ⟨j, rfl⟩ : ∃ j : Nat, ix = j := ⟨ix.toNat, by omega⟩
  have hparts : EntS.parts (entOf r m j pv e s) = [bsOf EntS.mark, r, bsOf (num m), bsOf (num j), bsOf pv, e].map bl := by
   simp [EntS.parts, entOf, bl_bsOf]
  have hfin : EntS.text (entOf r m j pv e s) = OctetS.list ([bsOf EntS.mark, r, bsOf (num m), bsOf (num j), bsOf pv, e].map bl) := by
   unfold EntS.text
   rw [hparts]
  rw [if_pos rfl, hfin]
  rw [hparts] at hfit
  have hL := fun w v h => Ref1L.List_ok w v [bsOf EntS.mark, r, bsOf (num m), bsOf (num j), bsOf pv, e] h hfit
  rw [hchk] at hC
  obtain ⟨out, hout⟩ := nXe (bsOf (OctetS.list ([bsOf EntS.mark, r, bsOf (num m), bsOf (num j), bsOf pv, e].map bl)))
  obtain ⟨n1, hn1⟩ := nXe (bsOf (num m))
  obtain ⟨n2, hn2⟩ := nXe (bsOf (num j))
  obtain ⟨q, hq⟩ := nXe (bsOf pv)
  have hN1 := fun w => Ref1N.Num_ok w m (by unfold maxNum; omega)
  have hN2 := fun w => Ref1N.Num_ok w j (by unfold maxNum; omega)
  rw [← hn1] at hN1
  rw [← hn2] at hN2
  rw [← hout]
  rw [← hout, ← hn1, ← hn2, ← hq] at hL
  have HC := lh hC
  have HN1 := lh hN1
  have HN2 := lh hN2
  have HL := lh hL
  have HQ := lh hq
  clear hC hN1 hN2 hL hn1 hn2 hout hfin hparts hfit hR hchk hq hr he hs hp hb0 hw0
  go_enter Tryz.func34, Tryz.ntmps34
  go_wp2_with (first | (rw [← HW0.out]; refine wpList_load_row rfl _ _ rfl w.heap.size rfl _ p (0, 0) _ Hx0.out Tryz.underlying27 rfl HI.out ?_) | fail)
  refine (HC.out w0).mono ?_
  rintro e' w1 ⟨rfl, hb⟩
  have HBL1 := tbB HBL0 hb
  have hx1 := (hb.block _ lx0).trans hx0
  have lx1 := lt_row hx1
  obtain ⟨cx1, fx1⟩ := row_facts hx1
  clear hb hx0 cx0 fx0
  unfold whyOf
  go_wp2_with fail
  refine (HN1.out w1).mono ?_
  rintro e w2 ⟨rfl, hb⟩
  have HBL2 := tbB HBL1 hb
  have hx2 := (hb.block _ lx1).trans hx1
  have lx2 := lt_row hx2
  obtain ⟨cx2, fx2⟩ := row_facts hx2
  clear hb hx1 cx1 fx1
  go_wp2_with fail
  refine (HN2.out w2).mono ?_
  rintro e w3 ⟨rfl, hb⟩
  have HBL3 := tbB HBL2 hb
  have hx3 := (hb.block _ lx2).trans hx2
  have lx3 := lt_row hx3
  obtain ⟨cx3, fx3⟩ := row_facts hx3
  clear hb hx2 cx2 fx2
  go_wp2_with fail
  refine wp_region_noPanic ?_
  refine Wr.region_K (S := (fun W => W.heap[w.heap.size]? = some (.cells p 27 (0, 0)))) (K := []) (by kernel_rfl) ?_
  change Wr.wpAnyK _ _ _ _ _ _ _ _ _ (World.drew w3)
  have hS0 : (World.drew w3).heap[w.heap.size]? = some (.cells p 27 (0, 0)) := hx3
  have hBL0 : Below w3.heap.size w3 (World.drew w3) := Bl.drew (Below.refl _ _)
  refine Wr.tkK (i := 0) (v := ?_) rfl (.inl ⟨by rfl, ?_⟩) hS0 ?_
  rotate_left
  ·intro wq hSw
   have q0 := hSw
   obtain ⟨qc0, qf0⟩ := row_facts q0
   go_simp
   rfl
  simp only [Act.put, sxx]
  refine Wr.tkK (i := 1) (v := ?_) rfl (.inl ⟨by rfl, ?_⟩) hS0 ?_
  rotate_left
  ·intro wq hSw
   have q0 := hSw
   obtain ⟨qc0, qf0⟩ := row_facts q0
   go_simp
   rfl
  simp only [Act.put, sxx]
  refine Wr.tkK (i := 2) (v := ?_) rfl (.inl ⟨by rfl, ?_⟩) hS0 ?_
  rotate_left
  ·intro wq hSw
   have q0 := hSw
   obtain ⟨qc0, qf0⟩ := row_facts q0
   go_simp
   rfl
  simp only [Act.put, sxx]
  refine Wr.tkK (i := 3) (v := ?_) rfl (.inl ⟨by rfl, ?_⟩) hS0 ?_
  rotate_left
  ·intro wq hSw
   have q0 := hSw
   obtain ⟨qc0, qf0⟩ := row_facts q0
   go_simp
   rfl
  simp only [Act.put, sxx]
  refine Wr.tkK (i := 4) (v := ?_) rfl (.inl ⟨by rfl, ?_⟩) hS0 ?_
  rotate_left
  ·intro wq hSw
   have q0 := hSw
   obtain ⟨qc0, qf0⟩ := row_facts q0
   go_simp
   rfl
  simp only [Act.put, sxx]
  refine Wr.tkK (i := 5) (v := ?_) rfl (.inl ⟨by rfl, ?_⟩) hS0 ?_
  rotate_left
  ·intro wq hSw
   have q0 := hSw
   obtain ⟨qc0, qf0⟩ := row_facts q0
   go_simp
   rfl
  simp only [Act.put, sxx]
  refine Wr.tkK (i := 6) (v := (.string q)) rfl (.inl ⟨by rfl, ?_⟩) hS0 ?_
  ·intro wq hSw
   have q0 := hSw
   obtain ⟨qc0, qf0⟩ := row_facts q0
   have hcv := run_text' wq 101 9 5 Tryz.underlying101 Tryz.underlying5 Tryz.underlying9 _ _ (HP.out.sl q0)
   rw [← HQ.out] at hcv
   go_simp
  simp only [Act.put, sxx]
  refine Wr.tkK (i := 7) (v := ?_) rfl (.inl ⟨by rfl, ?_⟩) hS0 ?_
  rotate_left
  ·intro wq hSw
   have q0 := hSw
   obtain ⟨qc0, qf0⟩ := row_facts q0
   go_simp
   rfl
  simp only [Act.put, sxx]
  refine Wr.tkK (i := 8) (v := ?_) rfl (.inl ⟨by rfl, ?_⟩) hS0 ?_
  rotate_left
  ·intro wq hSw
   have q0 := hSw
   obtain ⟨qc0, qf0⟩ := row_facts q0
   go_simp
   rfl
  simp only [Act.put, sxx]
  refine Wr.wpAnyK_one (i := 9) (by kernel_rfl) ?_
  refine wpOp_run rfl (by rfl) (w' := (World.drew w3).alloc (.cells #[.string ⟨#[101, 110, 116, 114, 121]⟩, .string r, .string n1, .string n2, .string q, .string e] 9)) (v := .slice (some ⟨(World.drew w3).heap.size, 0, none⟩) 6 6) (by go_simp; first | done | rfl) ?_
  obtain ⟨w6, hw_w6⟩ := nXe ((World.drew w3).alloc (.cells #[.string ⟨#[101, 110, 116, 114, 121]⟩, .string r, .string n1, .string n2, .string q, .string e] 9))
  rw [← hw_w6]
  have hb_w6 : Below (World.drew w3).heap.size (World.drew w3) w6 := by rw [hw_w6]; exact bAx
  have hn_w6 : w6.heap[(World.drew w3).heap.size]? = some (.cells #[.string ⟨#[101, 110, 116, 114, 121]⟩, .string r, .string n1, .string n2, .string q, .string e] 9 (0, 0)) := by rw [hw_w6]; exact heap_new' _ rfl
  have hS1 : w6.heap[w.heap.size]? = some (.cells p 27 (0, 0)) := (hb_w6.block _ (lt_row (hS0))).trans (hS0)
  have hBL1 : Below w3.heap.size w3 w6 := hBL0.trans (hb_w6.mono hBL0.size)
  clear hw_w6
  refine ⟨hS1, ?_⟩
  simp only [Act.put, sxx]
  refine Wr.wpAnyK_one (i := 10) (by kernel_rfl) ?_
  refine wpOp_call rfl (by rfl) (by go_simp; all_goals (and_intros <;> rfl)) ?_
  refine (HL.out w6 _ (EventB.sl_built hn_w6 rfl (by simp [maxLen]))).mono ?_
  rintro e w7 ⟨rfl, hb_w7⟩
  have hS2 : w7.heap[w.heap.size]? = some (.cells p 27 (0, 0)) := (hb_w7.block _ (lt_row (hS1))).trans (hS1)
  have hBL2 : Below w3.heap.size w3 w7 := hBL1.trans (hb_w7.mono hBL1.size)
  refine ⟨_, rfl, ?_, ?_⟩
  ·exact hS2
  simp only [Act.put, sxx]
  refine Wr.tkK (i := 11) (v := ?_) rfl (.inl ⟨by rfl, ?_⟩) hS2 ?_
  rotate_left
  ·intro wq hSw
   have q0 := hSw
   obtain ⟨qc0, qf0⟩ := row_facts q0
   go_simp
   rfl
  simp only [Act.put, sxx]
  refine Wr.tkK (i := 12) (v := ?_) rfl (.inl ⟨by rfl, ?_⟩) hS2 ?_
  rotate_left
  ·intro wq hSw
   have q0 := hSw
   obtain ⟨qc0, qf0⟩ := row_facts q0
   go_simp
   rfl
  simp only [Act.put, sxx]
  refine Wr.tkK (i := 13) (v := ?_) rfl (.inl ⟨by rfl, ?_⟩) hS2 ?_
  rotate_left
  ·intro wq hSw
   have q0 := hSw
   obtain ⟨qc0, qf0⟩ := row_facts q0
   go_simp
   rfl
  simp only [Act.put, sxx]
  refine Wr.tkK (i := 14) (v := ?_) rfl (.inl ⟨by rfl, ?_⟩) hS2 ?_
  rotate_left
  ·intro wq hSw
   have q0 := hSw
   obtain ⟨qc0, qf0⟩ := row_facts q0
   go_simp
   rfl
  simp only [Act.put, sxx]
  refine Wr.wpAnyK_done (by kernel_rfl) (NoPanic.normal ?_) _
  go_wp2
  go_ret2
  exact ⟨rfl, HBL3.out.trans (hBL2.mono HBL3.out.size)⟩
end Go.Proofs.YtkcikadgnnjjjaaGreatDoor.EntR
namespace Go.Proofs.YtkcikadgnnjjjaaGreatDoor.EgS
open Go Go.RowKit Go.Shelf OctetS IdentS EntS OctP OctQ OctG IdentP EntP EventC ShaA Steps KeyA KeyS KeyI KeyK TreeA WireS WireT
theorem entry_sign (w : World) (R : Nat) (sd : ByteArray) (h nx : Nat) (v : Value) (x : H32) (hsd : sd.size ≤ 64) (hh : h ≤ 7) (hn0 : nx ≤ 2 ^ h) (hr0 : w.heap[R]? = some (.cells (ringA sd h nx v x) 75 (0, 0)))
 (hv0 : Sl w v 32 (2 ^ h) ((leavesH (bl sd) (2 ^ h)).flatMap H32.cs)) (hvb : ∀ k, v.ownBlock = some k → k < w.heap.size) (hk : VarsH w)
 (p : Array Value) (r : ByteArray) (ep ix : Int) (pv : List UInt8) (e s : ByteArray) (hp : EntP p r ep ix pv e s) (hv : VarsI w) (hr : r.size ≤ 140737488351232) (he : e.size ≤ maxLen) (hs : s.size ≤ maxLen) (S : ByteArray × Nat × Int) (hS0 : S = signS sd h nx (EntS.checkB (entOf r ep ix pv e s)) (EntS.text (entOf r ep ix pv e s)) s) :
 Calls Tryz.prog 11 #[.pointer (some ⟨R, 0, none⟩), .agg p] w fun e' w' => e' = .returned (.tuple #[.agg (entA r ep ix pv e S.1), .int .i64 S.2.2]) ∧
  w'.heap[R]? = some (.cells (ringA sd h S.2.1 v x) 75 (0, 0)) ∧ Ext (fun k => k = R) w w' := by
 unfold signS at hS0
 by_cases hyes : EntS.checkB (entOf r ep ix pv e s) = true ∧ nx < 2 ^ h
 ·obtain ⟨hc, hn⟩ := hyes
  rw [if_pos hc, if_neg (by omega)] at hS0
  subst hS0
  exact EntW.Sign_ok w R sd h nx v x hsd hh hn hr0 hv0 hvb hk p r ep ix pv e s hp hv hr he hs hc
 have hT := fun w (hv : VarsI w) => Text_ok w p r ep ix pv e s hp hv hr he hs
 unfold EntS.textOf at hT
 have hpi : (Tryz.prog.info? 27).map (·.size) = some p.size := by rw [hp.size]; kernel_rfl
 have HPN := lh (show 37 = p.size from (hp.size).symm)
 have HPO := lh (show p.all (·.oneCell') = true by rw [hp.eq]; exact WireT.entA_one _ _ _ _ _ _)
 have HI := lh hpi
 obtain ⟨Z, hZ⟩ := nXe (zl2)
 have HLIT : Hid (zq2 Z) := lh hZ.symm
 have HZN : Hid (Z.size = 37) := lh (by rw [hZ]; rfl)
 have hlR := lt_row hr0
 have heq := hp.eq
 obtain ⟨w0, hw0⟩ := nXe ((w.alloc (.cells p 27)).alloc (.cells Z 27))
 have hb0 : Below w.heap.size w w0 := by rw [hw0]; exact ((Below.refl _ w).alloc (Nat.le_refl _) _).alloc (by simp) _
 have HX0 := lh (show w0.heap[w.heap.size]? = some (.cells p 27 (0, 0)) by rw [hw0]; exact heap_at (heap_new _ _) _)
 have HZ0 := lh (show w0.heap[w.heap.size + 1]? = some (.cells Z 27 (0, 0)) by rw [hw0]; exact heap_new' _ (by simp))
 have HBL0 := lh hb0
 have HW0 := lh hw0
 have HV0 := lh (hv.below hb0)
 have HR0 := lh hr0
 cases hc : EntS.checkB (entOf r ep ix pv e s)
 ·rw [hc, if_neg (by simp)] at hS0
  rw [hc, if_neg (by simp)] at hT
  subst hS0
  show Calls _ _ _ _ fun e' w' => e' = .returned (.tuple #[.agg (entA r ep ix pv e s), .int .i64 2]) ∧ w'.heap[R]? = some (.cells (ringA sd h nx v x) 75 (0, 0)) ∧ Ext (fun k => k = R) w w'
  rw [← heq]
  have HT := lh hT
  clear hT hc hp hr hs he hpi hb0 hv hw0 hv0 hr0 hk hvb hZ heq hyes
  go_enter Tryz.func11, Tryz.ntmps11
  go_wp2_with (first | (rw [HLIT.out, ← HW0.out]; refine wpList_load_row rfl _ _ rfl w.heap.size rfl _ p (0, 0) _ HX0.out Tryz.underlying27 rfl HI.out ?_) | fail)
  refine (HT.out w0 HV0.out).mono ?_
  rintro e' w1 ⟨rfl, hb⟩
  have HBL1 := tbB HBL0 hb
  have HX1 := kpB hb HX0
  have HZ1 := kpB hb HZ0
  clear hb
  unfold whyOf
  go_wp2_with (first | (refine wpList_load_row rfl _ _ rfl w.heap.size rfl _ p (0, 0) _ HX1.out Tryz.underlying27 rfl HI.out ?_) | (refine wpList_store_rowA rfl _ _ _ rfl (w.heap.size + 1) p rfl rfl _ _ HZ1.out HI.out (by rw [HZN.out]; exact HPN.out) HPO.out ?_) | fail)
  intro wf hwf
  go_wp2
  refine bodyPost_ret (v := .tuple #[.agg p, .int .i64 2]) (WireT.results_cell_slot rfl _ _ (w.heap.size + 1) 27 p (0, 0) _ rfl (by rw [hwf.out]; exact setRow_at HZ1.out) Tryz.underlying27 rfl HI.out rfl) rfl ⟨rfl, ?_, ?_⟩
  ·rw [hwf.out, setRow_far _ (by omega)]
   exact (HBL1.out.block _ hlR).trans HR0.out
  ·rw [hwf.out]
   exact (Ext.of_below HBL1.out).grown (row := some (w.heap.size + 1)) (EntW.grownBy_setRow _ _ _) (fun k hk => by cases hk; exact .inr (by omega))
 ·have hnx : nx = 2 ^ h := by
   have : ¬ nx < 2 ^ h := fun h1 => hyes ⟨hc, h1⟩
   omega
  rw [hc, if_pos rfl, if_pos hnx] at hS0
  rw [hc, if_pos rfl] at hT
  subst hS0
  show Calls _ _ _ _ fun e' w' => e' = .returned (.tuple #[.agg (entA r ep ix pv e s), .int .i64 10]) ∧ w'.heap[R]? = some (.cells (ringA sd h nx v x) 75 (0, 0)) ∧ Ext (fun k => k = R) w w'
  rw [← heq]
  obtain ⟨Tx, hTx⟩ := nXe (bsOf (EntS.text (entOf r ep ix pv e s)))
  rw [← hTx] at hT
  have hS := fun w' (hb : Below w.heap.size w w') => PkS.Sign_over w' R sd Tx h v x _ hh (by rw [← hnx]; exact (hb.block _ hlR).trans hr0) (hv0.below hb)
  have HT := lh hT
  have HS := lh hS
  clear hT hS hTx hc hp hr hs he hpi hb0 hv hw0 hv0 hr0 hk hvb hZ heq hyes hnx
  go_enter Tryz.func11, Tryz.ntmps11
  go_wp2_with (first | (rw [HLIT.out, ← HW0.out]; refine wpList_load_row rfl _ _ rfl w.heap.size rfl _ p (0, 0) _ HX0.out Tryz.underlying27 rfl HI.out ?_) | fail)
  refine (HT.out w0 HV0.out).mono ?_
  rintro e' w1 ⟨rfl, hb⟩
  have HBL1 := tbB HBL0 hb
  have HX1 := kpB hb HX0
  have HZ1 := kpB hb HZ0
  clear hb
  unfold whyOf
  go_wp2_with fail
  refine (HS.out w1 HBL1.out).mono ?_
  rintro e' w2 ⟨rfl, hb⟩
  have HBL2 := tbB HBL1 hb
  have HX2 := kpB hb HX1
  have HZ2 := kpB hb HZ1
  clear hb
  go_wp2_with (first | (refine wpList_load_row rfl _ _ rfl w.heap.size rfl _ p (0, 0) _ HX2.out Tryz.underlying27 rfl HI.out ?_) | (refine wpList_store_rowA rfl _ _ _ rfl (w.heap.size + 1) p rfl rfl _ _ HZ2.out HI.out (by rw [HZN.out]; exact HPN.out) HPO.out ?_) | fail)
  intro wf hwf
  go_wp2
  refine bodyPost_ret (v := .tuple #[.agg p, .int .i64 10]) (WireT.results_cell_slot rfl _ _ (w.heap.size + 1) 27 p (0, 0) _ rfl (by rw [hwf.out]; exact setRow_at HZ2.out) Tryz.underlying27 rfl HI.out rfl) rfl ⟨rfl, ?_, ?_⟩
  ·rw [hwf.out, setRow_far _ (by omega)]
   exact (HBL2.out.block _ hlR).trans HR0.out
  ·rw [hwf.out]
   exact (Ext.of_below HBL2.out).grown (row := some (w.heap.size + 1)) (EntW.grownBy_setRow _ _ _) (fun k hk => by cases hk; exact .inr (by omega))
end Go.Proofs.YtkcikadgnnjjjaaGreatDoor.EgS
namespace Go.Proofs.YtkcikadgnnjjjaaGreatDoor.EgR
open Go Go.RowKit Go.Shelf OctetS IdentS EntS OctP OctQ OctG IdentP EntP EventC ShaA Steps KeyA TreeA WireS WireT BookA BkF RkJ
theorem entry2_any (w : World) (p : Array Value) (r : ByteArray) (ep ix : Int) (pv : List UInt8) (e s : ByteArray) (hp : EntP p r ep ix pv e s) (hr : r.size ≤ 140737488351232) (he : e.size ≤ maxLen) (hs : s.size ≤ maxLen) (v : Value) (sv : Int) (L : List Gr') (hb : Sl w v 36 L.length (L.flatMap Gr'.cs)) :
 Calls Tryz.prog 9 #[v, .int .i64 sv, .agg p] w (KeyA.RB (.int .i64 (if EntS.checkB (entOf r ep ix pv e s) = true then verifyB L sv ix (EntS.text (entOf r ep ix pv e s)) (bl s) else 2)) w) := by
 have hT := fun w => EntR.Text_ok w p r ep ix pv e s hp hr he hs
 have hpi : (Tryz.prog.info? 27).map (·.size) = some p.size := by rw [hp.size]; kernel_rfl
 have HI := lh hpi
 have p2 : p[2]? = some (.int .i64 ix) := hp.c2
 have p36 : p[36]? = some (.string s) := hp.c36
 obtain ⟨w0, hw0⟩ := nXe (w.alloc (.cells p 27))
 have hb0 : Below w.heap.size w w0 := by rw [hw0]; exact (Below.refl _ w).alloc (Nat.le_refl _) _
 have HX0 := lh (show w0.heap[w.heap.size]? = some (.cells p 27 (0, 0)) by rw [hw0]; exact heap_new _ _)
 have HBL0 := lh hb0
 have HW0 := lh hw0
 have hV := fun w' (hw : Below w.heap.size w w') (ht : (bsOf (EntS.text (entOf r ep ix pv e s))).size ≤ 140737488351232) => RkJ.Verify2_ok w' v L sv ix (bsOf (EntS.text (entOf r ep ix pv e s))) s (hb.below hw) ht hs
 clear hw0 hb0
 unfold EntS.textOf at hT
 cases hc : EntS.checkB (entOf r ep ix pv e s)
 ·rw [if_neg (by simp)]
  rw [hc, if_neg (by simp)] at hT
  have HT := lh hT
  clear hT hc hp hr hs he hpi hb hV p2 p36
  go_enter Tryz.func9, Tryz.ntmps9
  go_wp2_with (first | (rw [← HW0.out]; refine wpList_load_row rfl _ _ rfl w.heap.size rfl _ p (0, 0) _ HX0.out Tryz.underlying27 rfl HI.out ?_) | fail)
  refine (HT.out w0).mono ?_
  rintro e' w1 ⟨rfl, hb⟩
  have HBL1 := tbB HBL0 hb
  have HX1 := kpB hb HX0
  clear hb
  unfold whyOf
  go_wp2
  go_ret
  exact ⟨rfl, HBL1.out⟩
 ·rw [if_pos rfl]
  rw [hc, if_pos rfl] at hT
  have hlen : (bsOf (EntS.text (entOf r ep ix pv e s))).size ≤ 140737488351232 := by rw [size_bsOf]; have := EntX.ent_len (EntS.check_iff.1 hc) hp.len; omega
  have hR := EntS.check_iff.1 hc
  obtain ⟨TX, hTX⟩ := nXe (bsOf (EntS.text (entOf r ep ix pv e s)))
  have hV2 := fun w' hw => hV w' hw hlen
  rw [bl_bsOf] at hV2
  obtain ⟨RES, hRES⟩ := nXe (verifyB L sv ix (EntS.text (entOf r ep ix pv e s)) (bl s))
  rw [← hRES] at hV2 ⊢
  rw [← hTX] at hV2 hT
  have HT := lh hT
  have HVV := lh hV2
  have hix0 : 0 ≤ ix := hR.ix0
  have hix1 : ix ≤ 4096 := hR.ix1
  have hwr : IntKind.i64.wrap ix = ix := by rw [IntKind.wrap_i64]; omega
  clear hT hV hV2 hc hp hr hs he hpi hb hlen hTX hRES hR
  go_enter Tryz.func9, Tryz.ntmps9
  go_wp2_with (first | (rw [← HW0.out]; refine wpList_load_row rfl _ _ rfl w.heap.size rfl _ p (0, 0) _ HX0.out Tryz.underlying27 rfl HI.out ?_) | fail)
  refine (HT.out w0).mono ?_
  rintro e' w1 ⟨rfl, hb⟩
  have HBL1 := tbB HBL0 hb
  have HX1 := kpB hb HX0
  clear hb
  have c2 : w1.cell? ⟨w.heap.size, 2, none⟩ = some (.int .i64 ix) := (cell_row HX1.out).trans p2
  have c36 : w1.cell? ⟨w.heap.size, 36, none⟩ = some (.string s) := (cell_row HX1.out).trans p36
  unfold whyOf
  go_wp2_with fail
  refine (HVV.out w1 HBL1.out).mono ?_
  rintro e' w2 ⟨rfl, hb⟩
  have HBL2 := tbB HBL1 hb
  clear hb
  go_wp2
  go_ret
  exact ⟨rfl, HBL2.out⟩
end Go.Proofs.YtkcikadgnnjjjaaGreatDoor.EgR
namespace Go.Proofs.YtkcikadgnnjjjaaGreatDoor.EgT
open Go Go.RowKit Go.Shelf OctetS IdentS EntS OctP OctQ OctG IdentP EntP EventC ShaA Steps KeyA KeyS KeyI KeyK TreeA RkM EgS WireS WireT
theorem entry2_sign (w : World) (sd : ByteArray) (h nx : Nat) (v : Value) (hsd : sd.size ≤ 64) (hh : h ≤ 7) (hn0 : nx ≤ 2 ^ h) (hv0 : Sl w v 32 (2 ^ h) ((leavesH (bl sd) (2 ^ h)).flatMap H32.cs))
 (p : Array Value) (r : ByteArray) (ep ix : Int) (pv : List UInt8) (e s : ByteArray) (hp : EntP p r ep ix pv e s) (hr : r.size ≤ 140737488351232) (he : e.size ≤ maxLen) (hs : s.size ≤ maxLen) (S : ByteArray × Nat × Int) (hS0 : S = signS sd h nx (EntS.checkB (entOf r ep ix pv e s)) (EntS.text (entOf r ep ix pv e s)) s) :
 Calls Tryz.prog 12 #[.agg (ring2 sd h nx v), .agg p] w (KeyA.RB (.tuple #[.agg (ring2 sd h S.2.1 v), .agg (entA r ep ix pv e S.1), .int .i64 S.2.2]) w) := by
 unfold signS at hS0
 have hT := fun w => EntR.Text_ok w p r ep ix pv e s hp hr he hs
 unfold EntS.textOf at hT
 obtain ⟨va, vcap, rfl, _, _⟩ := hv0.form
 have HpS := lh (show (Tryz.prog.info? 27).map (·.size) = some p.size by rw [hp.size]; kernel_rfl)
 have HpN := lh (show 37 = p.size from (hp.size).symm)
 have HpO := lh (show p.all (·.oneCell') = true by rw [hp.eq]; exact WireT.entA_one _ _ _ _ _ _)
 obtain ⟨E, hE⟩ := nXe (ring2 sd h nx (.slice va (2 ^ h) vcap))
 have HES := lh (show (Tryz.prog.info? 40).map (·.size) = some E.size by rw [hE]; kernel_rfl)
 have HEN := lh (show 4 = E.size by rw [hE]; rfl)
 have HEO := lh (show E.all (·.oneCell') = true by rw [hE]; simp [ring2, Value.oneCell'])
 obtain ⟨Z, hZ⟩ := nXe (zl2)
 have HLIT : Hid (zq2 Z) := lh hZ.symm
 have HZN : Hid (Z.size = 37) := lh (by rw [hZ]; rfl)
 obtain ⟨Y, hY⟩ : ∃ Y : Array Value, Y = #[.string ⟨#[]⟩, .int .i64 0, .int .i64 0, .slice none 0 0] := ⟨_, rfl⟩
 have HLR : Hid ((#[.string ⟨#[]⟩, .int .i64 0, .int .i64 0, .slice none 0 0] : Array Value) = Y) := lh hY.symm
 have HYN : Hid (Y.size = 4) := lh (by rw [hY]; rfl)
 have heq := hp.eq
 obtain ⟨w0, hw0⟩ := nXe ((((w.alloc (.cells E 40)).alloc (.cells p 27)).alloc (.cells Y 40)).alloc (.cells Z 27))
 have hb0 : Below w.heap.size w w0 := by rw [hw0]; exact ((((Below.refl _ w).alloc (Nat.le_refl _) _).alloc (by simp) _).alloc (by simp; omega) _).alloc (by simp; omega) _
 have HE0 := lh (show w0.heap[w.heap.size]? = some (.cells E 40 (0, 0)) by rw [hw0]; exact heap_at (heap_at (heap_at (heap_new _ _) _) _) _)
 have HP0 := lh (show w0.heap[w.heap.size + 1]? = some (.cells p 27 (0, 0)) by rw [hw0]; exact heap_at (heap_at (heap_new' _ (by simp)) _) _)
 have HY0 := lh (show w0.heap[w.heap.size + 2]? = some (.cells Y 40 (0, 0)) by rw [hw0]; exact heap_at (heap_new' _ (by simp)) _)
 have HZ0 := lh (show w0.heap[w.heap.size + 3]? = some (.cells Z 27 (0, 0)) by rw [hw0]; exact heap_new' _ (by simp))
 have HB0 := lh hb0
 have HW0 := lh hw0
 have hsl := fun w' (hb : Below w.heap.size w w') => hv0.below hb
 cases hc : EntS.checkB (entOf r ep ix pv e s)
 ·rw [hc, if_neg (by simp)] at hS0
  rw [hc, if_neg (by simp)] at hT
  subst hS0
  show Calls _ _ _ _ (KeyA.RB (.tuple #[.agg (ring2 sd h nx (.slice va (2 ^ h) vcap)), .agg (entA r ep ix pv e s), .int .i64 2]) w)
  rw [← heq, ← hE]
  have HT := lh hT
  clear hT hc hp hr hs he hb0 hw0 hv0 hZ hY hE heq hsl
  go_enter Tryz.func12, Tryz.ntmps12
  go_wp2_with (first | (rw [HLR.out, HLIT.out, ← HW0.out]; refine wpList_load_row rfl _ _ rfl (w.heap.size + 1) rfl _ p (0, 0) _ HP0.out Tryz.underlying27 rfl HpS.out ?_) | fail)
  refine (HT.out w0).mono ?_
  rintro e' w1 ⟨rfl, hb⟩
  have HE1 := kpB hb HE0
  have HP1 := kpB hb HP0
  have HY1 := kpB hb HY0
  have HZ1 := kpB hb HZ0
  have HB1 := tbB HB0 hb
  clear hb
  unfold whyOf
  go_wp2
  refine wp_region_noPanic ?_
  refine wp_region_held (S := (fun W => W.heap[w.heap.size]? = some (.cells E 40 (0, 0)) ∧ W.heap[(w.heap.size + 1)]? = some (.cells p 27 (0, 0)))) (by kernel_rfl) ?_
  change wpAnyH _ _ _ _ _ _ _ _ (World.drew w1)
  have hS0 : (World.drew w1).heap[w.heap.size]? = some (.cells E 40 (0, 0)) ∧ (World.drew w1).heap[(w.heap.size + 1)]? = some (.cells p 27 (0, 0)) := ⟨HE1.out, HP1.out⟩
  refine tkH (i := 0) (v := .agg E) rfl (.inl ⟨by rfl, fun wq hSw => EqHash.exec_load_row 40 _ rfl _ rfl hSw.1 Tryz.underlying40 rfl HES.out⟩) hS0 ?_
  simp only [Act.put, sxx]
  refine tkH (i := 1) (v := .agg p) rfl (.inl ⟨by rfl, fun wq hSw => EqHash.exec_load_row 27 _ rfl _ rfl hSw.2 Tryz.underlying27 rfl HpS.out⟩) hS0 ?_
  simp only [Act.put, sxx]
  refine tkH (i := 2) (v := ?_) rfl (.inl ⟨by rfl, ?_⟩) hS0 ?_
  rotate_left
  ·intro wq hSw
   go_simp
   rfl
  simp only [Act.put, sxx]
  refine aOne (r := 3) ?_
  refine WrC.wpOp_store_row rfl (by rfl) _ _ _ rfl (w.heap.size + 2) E rfl rfl _ _ HY1.out HES.out (by rw [HYN.out]; exact HEN.out) HEO.out ?_
  intro u1 hu1
  have hS1 : u1.heap[w.heap.size]? = some (.cells E 40 (0, 0)) ∧ u1.heap[(w.heap.size + 1)]? = some (.cells p 27 (0, 0)) := ⟨by rw [hu1.out, setRow_far _ (by omega)]; exact hS0.1, by rw [hu1.out, setRow_far _ (by omega)]; exact hS0.2⟩
  have HZ9 := lh (show u1.heap[w.heap.size + 3]? = some (.cells Z 27 (0, 0)) by rw [hu1.out, setRow_far _ (by omega)]; exact HZ1.out)
  have HY9 := lh (show u1.heap[w.heap.size + 2]? = some (.cells E 40 (0, 0)) by rw [hu1.out]; exact setRow_at HY1.out)
  have HB9 := lh (show Below w.heap.size w u1 by rw [hu1.out]; exact below_row (HB1.out).drew (by omega) _)
  refine ⟨hS1, ?_⟩
  simp only [Act.put, sxx]
  refine aOne (r := 4) ?_
  refine WrC.wpOp_store_row rfl (by rfl) _ _ _ rfl (w.heap.size + 3) p rfl rfl _ _ HZ9.out HpS.out (by rw [HZN.out]; exact HpN.out) HpO.out ?_
  intro u2 hu2
  have hS2 : u2.heap[w.heap.size]? = some (.cells E 40 (0, 0)) ∧ u2.heap[(w.heap.size + 1)]? = some (.cells p 27 (0, 0)) := ⟨by rw [hu2.out, setRow_far _ (by omega)]; exact hS1.1, by rw [hu2.out, setRow_far _ (by omega)]; exact hS1.2⟩
  have HZ8 := lh (show u2.heap[w.heap.size + 3]? = some (.cells p 27 (0, 0)) by rw [hu2.out]; exact setRow_at HZ9.out)
  have HY8 := lh (show u2.heap[w.heap.size + 2]? = some (.cells E 40 (0, 0)) by rw [hu2.out, setRow_far _ (by omega)]; exact HY9.out)
  have HB8 := lh (show Below w.heap.size w u2 by rw [hu2.out]; exact below_row HB9.out (by omega) _)
  clear hu1 hu2
  refine ⟨hS2, ?_⟩
  simp only [Act.put, sxx]
  refine tkH (i := 5) (v := ?_) rfl (.inl ⟨by rfl, ?_⟩) hS2 ?_
  rotate_left
  ·intro wq _
   go_simp
   rfl
  simp only [Act.put, sxx]
  refine wpAnyH_done (by kernel_rfl) (NoPanic.normal ?_) _
  go_wp2
  refine bodyPost_ret (v := .tuple #[.agg E, .agg p, .int .i64 2]) (results_cell2_slot rfl _ _ (w.heap.size + 2) (w.heap.size + 3) 40 27 E p (0, 0) (0, 0) _ _ rfl HY8.out Tryz.underlying40 rfl HES.out rfl HZ8.out Tryz.underlying27 rfl HpS.out rfl) rfl ⟨rfl, HB8.out⟩
 ·rw [hc, if_pos rfl] at hS0 hT
  have hTz : (bsOf (EntS.text (entOf r ep ix pv e s))).size ≤ 140737488351232 := by rw [size_bsOf]; have := EntX.ent_len (EntS.check_iff.1 hc) hp.len; omega
  have hTb : bl (bsOf (EntS.text (entOf r ep ix pv e s))) = EntS.text (entOf r ep ix pv e s) := bl_bsOf _
  obtain ⟨Tx, hTx⟩ := nXe (bsOf (EntS.text (entOf r ep ix pv e s)))
  rw [← hTx] at hT hTz hTb
  by_cases hn : nx = 2 ^ h
  ·rw [if_pos hn] at hS0
   subst hS0
   show Calls _ _ _ _ (KeyA.RB (.tuple #[.agg (ring2 sd h nx (.slice va (2 ^ h) vcap)), .agg (entA r ep ix pv e s), .int .i64 10]) w)
   have hS : ∀ w, Calls Tryz.prog 41 #[.agg E, .string Tx] w (KeyA.RB (.tuple #[.agg E, .string ⟨#[]⟩, .int .i64 10]) w) := fun w => by
        rw [hE, hn]
        exact RkN.Sign2_over w sd Tx h (.slice va (2 ^ h) vcap) hh rfl
   rw [← heq, ← hE]
   have HT := lh hT
   have HS := lh hS
   clear hT hS hTx hTz hTb hn hc hp hr hs he hb0 hw0 hv0 hZ hY hE heq hsl
   go_enter Tryz.func12, Tryz.ntmps12
   go_wp2_with (first | (rw [HLR.out, HLIT.out, ← HW0.out]; refine wpList_load_row rfl _ _ rfl (w.heap.size + 1) rfl _ p (0, 0) _ HP0.out Tryz.underlying27 rfl HpS.out ?_) | fail)
   refine (HT.out w0).mono ?_
   rintro e' w1 ⟨rfl, hb⟩
   have HE1 := kpB hb HE0
   have HP1 := kpB hb HP0
   have HY1 := kpB hb HY0
   have HZ1 := kpB hb HZ0
   have HB1 := tbB HB0 hb
   clear hb
   unfold whyOf
   go_wp2_with (first | (refine wpList_load_row rfl _ _ rfl w.heap.size rfl _ E (0, 0) _ HE1.out Tryz.underlying40 rfl HES.out ?_) | fail)
   refine (HS.out w1).mono ?_
   rintro e' w2 ⟨rfl, hb⟩
   have HE2 := kpB hb HE1
   have HP2 := kpB hb HP1
   have HY2 := kpB hb HY1
   have HZ2 := kpB hb HZ1
   have HB2 := tbB HB1 hb
   clear hb
   go_wp2_with (first | (refine wpList_store_rowA rfl _ _ _ rfl w2.heap.size E rfl rfl _ _ (heap_new _ _) HES.out (by rw [← HEN.out]; rfl) HEO.out ?_) | fail)
   intro w3 hw3
   have hb : Below w2.heap.size w2 w3 := by rw [hw3.out]; exact below_row bAx (Nat.le_refl _) _
   have HE3 := kpB hb HE2
   have HP3 := kpB hb HP2
   have HY3 := kpB hb HY2
   have HZ3 := kpB hb HZ2
   have HB3 := tbB HB2 hb
   clear hb hw3
   go_wp2
   refine wp_region_noPanic ?_
   refine wp_region_held (S := (fun W => W.heap[w.heap.size]? = some (.cells E 40 (0, 0)) ∧ W.heap[(w.heap.size + 1)]? = some (.cells p 27 (0, 0)))) (by kernel_rfl) ?_
   change wpAnyH _ _ _ _ _ _ _ _ (World.drew w3)
   have hS0 : (World.drew w3).heap[w.heap.size]? = some (.cells E 40 (0, 0)) ∧ (World.drew w3).heap[(w.heap.size + 1)]? = some (.cells p 27 (0, 0)) := ⟨HE3.out, HP3.out⟩
   refine tkH (i := 0) (v := .agg E) rfl (.inl ⟨by rfl, fun wq hSw => EqHash.exec_load_row 40 _ rfl _ rfl hSw.1 Tryz.underlying40 rfl HES.out⟩) hS0 ?_
   simp only [Act.put, sxx]
   refine tkH (i := 1) (v := .agg p) rfl (.inl ⟨by rfl, fun wq hSw => EqHash.exec_load_row 27 _ rfl _ rfl hSw.2 Tryz.underlying27 rfl HpS.out⟩) hS0 ?_
   simp only [Act.put, sxx]
   refine tkH (i := 2) (v := ?_) rfl (.inl ⟨by rfl, ?_⟩) hS0 ?_
   rotate_left
   ·intro wq hSw
    go_simp
    rfl
   simp only [Act.put, sxx]
   refine aOne (r := 3) ?_
   refine WrC.wpOp_store_row rfl (by rfl) _ _ _ rfl (w.heap.size + 2) E rfl rfl _ _ HY3.out HES.out (by rw [HYN.out]; exact HEN.out) HEO.out ?_
   intro u1 hu1
   have hS1 : u1.heap[w.heap.size]? = some (.cells E 40 (0, 0)) ∧ u1.heap[(w.heap.size + 1)]? = some (.cells p 27 (0, 0)) := ⟨by rw [hu1.out, setRow_far _ (by omega)]; exact hS0.1, by rw [hu1.out, setRow_far _ (by omega)]; exact hS0.2⟩
   have HZ9 := lh (show u1.heap[w.heap.size + 3]? = some (.cells Z 27 (0, 0)) by rw [hu1.out, setRow_far _ (by omega)]; exact HZ3.out)
   have HY9 := lh (show u1.heap[w.heap.size + 2]? = some (.cells E 40 (0, 0)) by rw [hu1.out]; exact setRow_at HY3.out)
   have HB9 := lh (show Below w.heap.size w u1 by rw [hu1.out]; exact below_row (HB3.out).drew (by omega) _)
   refine ⟨hS1, ?_⟩
   simp only [Act.put, sxx]
   refine aOne (r := 4) ?_
   refine WrC.wpOp_store_row rfl (by rfl) _ _ _ rfl (w.heap.size + 3) p rfl rfl _ _ HZ9.out HpS.out (by rw [HZN.out]; exact HpN.out) HpO.out ?_
   intro u2 hu2
   have hS2 : u2.heap[w.heap.size]? = some (.cells E 40 (0, 0)) ∧ u2.heap[(w.heap.size + 1)]? = some (.cells p 27 (0, 0)) := ⟨by rw [hu2.out, setRow_far _ (by omega)]; exact hS1.1, by rw [hu2.out, setRow_far _ (by omega)]; exact hS1.2⟩
   have HZ8 := lh (show u2.heap[w.heap.size + 3]? = some (.cells p 27 (0, 0)) by rw [hu2.out]; exact setRow_at HZ9.out)
   have HY8 := lh (show u2.heap[w.heap.size + 2]? = some (.cells E 40 (0, 0)) by rw [hu2.out, setRow_far _ (by omega)]; exact HY9.out)
   have HB8 := lh (show Below w.heap.size w u2 by rw [hu2.out]; exact below_row HB9.out (by omega) _)
   clear hu1 hu2
   refine ⟨hS2, ?_⟩
   simp only [Act.put, sxx]
   refine tkH (i := 5) (v := ?_) rfl (.inl ⟨by rfl, ?_⟩) hS2 ?_
   rotate_left
   ·intro wq _
    go_simp
    rfl
   simp only [Act.put, sxx]
   refine wpAnyH_done (by kernel_rfl) (NoPanic.normal ?_) _
   go_wp2
   refine bodyPost_ret (v := .tuple #[.agg E, .agg p, .int .i64 10]) (results_cell2_slot rfl _ _ (w.heap.size + 2) (w.heap.size + 3) 40 27 E p (0, 0) (0, 0) _ _ rfl HY8.out Tryz.underlying40 rfl HES.out rfl HZ8.out Tryz.underlying27 rfl HpS.out rfl) rfl ⟨rfl, HB8.out⟩
  ·rw [if_neg hn] at hS0
   have hlt : nx < 2 ^ h := by omega
   obtain ⟨G, hG⟩ := nXe (bsOf (sigOf (bl sd) h nx (bl Tx)))
   rw [← hTb, ← hG] at hS0
   subst hS0
   show Calls _ _ _ _ (KeyA.RB (.tuple #[.agg (ring2 sd h (nx + 1 : Nat) (.slice va (2 ^ h) vcap)), .agg (entA r ep ix pv e G), .int .i64 0]) w)
   have hS := fun w' (hb : Below w.heap.size w w') => RkO.Sign2_ok w' sd Tx h nx (.slice va (2 ^ h) vcap) hsd hTz hh hlt (hsl w' hb)
   obtain ⟨E2, hE2⟩ := nXe (ring2 sd h (nx + 1 : Nat) (.slice va (2 ^ h) vcap))
   have HE2S := lh (show (Tryz.prog.info? 40).map (·.size) = some E2.size by rw [hE2]; kernel_rfl)
   have HE2N := lh (show 4 = E2.size by rw [hE2]; rfl)
   have HE2O := lh (show E2.all (·.oneCell') = true by rw [hE2]; simp [ring2, Value.oneCell'])
   obtain ⟨Q, hQ⟩ := nXe (entA r ep ix pv e G)
   have hset : p.setIfInBounds 36 (.string G) = Q := by rw [heq, hQ]; exact EntW.entA_set36 _ _ _ _ _ _ _ hp.len
   have HQN := lh (show 37 = Q.size by rw [← hset, Array.size_setIfInBounds]; exact HpN.out)
   have HQS := lh (show (Tryz.prog.info? 27).map (·.size) = some Q.size by rw [← HQN.out, HpN.out]; exact HpS.out)
   have HQO := lh (show Q.all (·.oneCell') = true by rw [hQ]; exact WireT.entA_one _ _ _ _ _ _)
   have HC := lh (hp.c36)
   have Hset := lh hset
   rw [← hG, ← hE, ← hE2] at hS
   rw [← hE, ← hE2, ← hQ]
   have HT := lh hT
   have HS := lh hS
   clear hT hS hTx hTz hTb hn hlt hG hE2 hQ hset hc hp hr hs he hb0 hw0 hv0 hZ hY hE heq hsl
   go_enter Tryz.func12, Tryz.ntmps12
   go_wp2_with (first | (rw [HLR.out, HLIT.out, ← HW0.out]; refine wpList_load_row rfl _ _ rfl (w.heap.size + 1) rfl _ p (0, 0) _ HP0.out Tryz.underlying27 rfl HpS.out ?_) | fail)
   refine (HT.out w0).mono ?_
   rintro e' w1 ⟨rfl, hb⟩
   have HE1 := kpB hb HE0
   have HP1 := kpB hb HP0
   have HY1 := kpB hb HY0
   have HZ1 := kpB hb HZ0
   have HB1 := tbB HB0 hb
   clear hb
   unfold whyOf
   go_wp2_with (first | (refine wpList_load_row rfl _ _ rfl w.heap.size rfl _ E (0, 0) _ HE1.out Tryz.underlying40 rfl HES.out ?_) | fail)
   refine (HS.out w1 HB1.out).mono ?_
   rintro e' w2 ⟨rfl, hb⟩
   have HE2 := kpB hb HE1
   have HP2 := kpB hb HP1
   have HY2 := kpB hb HY1
   have HZ2 := kpB hb HZ1
   have HB2 := tbB HB1 hb
   clear hb
   go_wp2_with (first | (refine wpList_store_rowA rfl _ _ _ rfl w2.heap.size E2 rfl rfl _ _ (heap_new _ _) HE2S.out (by rw [← HE2N.out]; rfl) HE2O.out ?_) | fail)
   intro w3 hw3
   have hb : Below w2.heap.size w2 w3 := by rw [hw3.out]; exact below_row bAx (Nat.le_refl _) _
   have HD3 := lh (show w3.heap[w2.heap.size]? = some (.cells E2 40 (0, 0)) by rw [hw3.out]; exact setRow_at (heap_new _ _))
   have HE3 := kpB hb HE2
   have HP3 := kpB hb HP2
   have HY3 := kpB hb HY2
   have HZ3 := kpB hb HZ2
   have HB3 := tbB HB2 hb
   obtain ⟨g, hg⟩ := nXe (w2.heap.size)
   have hgw : w.heap.size + 3 < g := by rw [hg]; exact lt_row HZ2.out
   rw [← hg] at HD3 ⊢
   clear hb hw3 hg
   have c36 : w3.cell? ⟨w.heap.size + 1, 36, none⟩ = some (.string s) := (cell_row HP3.out).trans HC.out
   have f36 : w3.frozen? ⟨w.heap.size + 1, 36, none⟩ = false := frozen_row HP3.out
   obtain ⟨w4, hw4⟩ := nXe (w3.setCell ⟨w.heap.size + 1, 36, none⟩ (.string G))
   have HP4 := lh (show w4.heap[w.heap.size + 1]? = some (.cells Q 27 (0, 0)) by rw [hw4, ← Hset.out]; exact heap_setCell_same HP3.out _)
   have HD4 := lh (show w4.heap[g]? = some (.cells E2 40 (0, 0)) by rw [hw4]; exact (heap_setCell_far _ (by omega)).trans HD3.out)
   have HY4 := lh (show w4.heap[w.heap.size + 2]? = some (.cells Y 40 (0, 0)) by rw [hw4]; exact (heap_setCell_far _ (by omega)).trans HY3.out)
   have HZ4 := lh (show w4.heap[w.heap.size + 3]? = some (.cells Z 27 (0, 0)) by rw [hw4]; exact (heap_setCell_far _ (by omega)).trans HZ3.out)
   have HB4 := lh (show Below w.heap.size w w4 by rw [hw4]; exact HB3.out.setCell (p := ⟨w.heap.size + 1, 36, none⟩) (Nat.le_succ _) _)
   have HW4 := lh hw4
   clear hw4
   go_wp2_with fail
   rw [← HW4.out]
   refine wp_region_noPanic ?_
   refine wp_region_held (S := (fun W => W.heap[g]? = some (.cells E2 40 (0, 0)) ∧ W.heap[(w.heap.size + 1)]? = some (.cells Q 27 (0, 0)))) (by kernel_rfl) ?_
   change wpAnyH _ _ _ _ _ _ _ _ (World.drew w4)
   have hS0 : (World.drew w4).heap[g]? = some (.cells E2 40 (0, 0)) ∧ (World.drew w4).heap[(w.heap.size + 1)]? = some (.cells Q 27 (0, 0)) := ⟨HD4.out, HP4.out⟩
   refine tkH (i := 0) (v := .agg E2) rfl (.inl ⟨by rfl, fun wq hSw => EqHash.exec_load_row 40 _ rfl _ rfl hSw.1 Tryz.underlying40 rfl HE2S.out⟩) hS0 ?_
   simp only [Act.put, sxx]
   refine tkH (i := 1) (v := .agg Q) rfl (.inl ⟨by rfl, fun wq hSw => EqHash.exec_load_row 27 _ rfl _ rfl hSw.2 Tryz.underlying27 rfl HQS.out⟩) hS0 ?_
   simp only [Act.put, sxx]
   refine aOne (r := 2) ?_
   refine WrC.wpOp_store_row rfl (by rfl) _ _ _ rfl (w.heap.size + 2) E2 rfl rfl _ _ HY4.out HE2S.out (by rw [HYN.out]; exact HE2N.out) HE2O.out ?_
   intro u1 hu1
   have hS1 : u1.heap[g]? = some (.cells E2 40 (0, 0)) ∧ u1.heap[(w.heap.size + 1)]? = some (.cells Q 27 (0, 0)) := ⟨by rw [hu1.out, setRow_far _ (by omega)]; exact hS0.1, by rw [hu1.out, setRow_far _ (by omega)]; exact hS0.2⟩
   have HZ9 := lh (show u1.heap[w.heap.size + 3]? = some (.cells Z 27 (0, 0)) by rw [hu1.out, setRow_far _ (by omega)]; exact HZ4.out)
   have HY9 := lh (show u1.heap[w.heap.size + 2]? = some (.cells E2 40 (0, 0)) by rw [hu1.out]; exact setRow_at HY4.out)
   have HB9 := lh (show Below w.heap.size w u1 by rw [hu1.out]; exact below_row (HB4.out).drew (by omega) _)
   refine ⟨hS1, ?_⟩
   simp only [Act.put, sxx]
   refine aOne (r := 3) ?_
   refine WrC.wpOp_store_row rfl (by rfl) _ _ _ rfl (w.heap.size + 3) Q rfl rfl _ _ HZ9.out HQS.out (by rw [HZN.out]; exact HQN.out) HQO.out ?_
   intro u2 hu2
   have hS2 : u2.heap[g]? = some (.cells E2 40 (0, 0)) ∧ u2.heap[(w.heap.size + 1)]? = some (.cells Q 27 (0, 0)) := ⟨by rw [hu2.out, setRow_far _ (by omega)]; exact hS1.1, by rw [hu2.out, setRow_far _ (by omega)]; exact hS1.2⟩
   have HZ8 := lh (show u2.heap[w.heap.size + 3]? = some (.cells Q 27 (0, 0)) by rw [hu2.out]; exact setRow_at HZ9.out)
   have HY8 := lh (show u2.heap[w.heap.size + 2]? = some (.cells E2 40 (0, 0)) by rw [hu2.out, setRow_far _ (by omega)]; exact HY9.out)
   have HB8 := lh (show Below w.heap.size w u2 by rw [hu2.out]; exact below_row HB9.out (by omega) _)
   clear hu1 hu2
   refine ⟨hS2, ?_⟩
   simp only [Act.put, sxx]
   refine tkH (i := 4) (v := ?_) rfl (.inl ⟨by rfl, ?_⟩) hS2 ?_
   rotate_left
   ·intro wq _
    go_simp
    rfl
   simp only [Act.put, sxx]
   refine wpAnyH_done (by kernel_rfl) (NoPanic.normal ?_) _
   go_wp2
   refine bodyPost_ret (v := .tuple #[.agg E2, .agg Q, .int .i64 0]) (results_cell2_slot rfl _ _ (w.heap.size + 2) (w.heap.size + 3) 40 27 E2 Q (0, 0) (0, 0) _ _ rfl HY8.out Tryz.underlying40 rfl HE2S.out rfl HZ8.out Tryz.underlying27 rfl HQS.out rfl) rfl ⟨rfl, HB8.out⟩
end Go.Proofs.YtkcikadgnnjjjaaGreatDoor.EgT
namespace Go.Proofs.YtkcikadgnnjjjaaGreatDoor.EgV
open Go Go.RowKit Go.Shelf OctetS IdentS EntS OctP OctQ OctG IdentP EntP EventC ShaA Steps KeyA TreeA WireS WireT BookA BkF
theorem entry_any (w : World) (p : Array Value) (r : ByteArray) (ep ix : Int) (pv : List UInt8) (e s : ByteArray) (hp : EntP p r ep ix pv e s) (hv : VarsI w) (hr : r.size ≤ 140737488351232) (he : e.size ≤ maxLen) (hs : s.size ≤ maxLen) (v : Value) (sv : Int) (L : List Gr') (hb : Sl w v 36 L.length (L.flatMap Gr'.cs)) (hk : VarsH w) :
 Calls Tryz.prog 8 #[v, .int .i64 sv, .agg p] w (KeyA.RB (.int .i64 (if EntS.checkB (entOf r ep ix pv e s) = true then verifyB L sv ix (EntS.text (entOf r ep ix pv e s)) (bl s) else 2)) w) := by
 cases hc : EntS.checkB (entOf r ep ix pv e s)
 ·rw [if_neg (by simp)]
  have hT := fun w (hv : VarsI w) => Text_ok w p r ep ix pv e s hp hv hr he hs
  rw [hc] at hT
  obtain ⟨Tx, hTx⟩ := nXe (bsOf (EntS.textOf (entOf r ep ix pv e s)))
  rw [← hTx] at hT
  have hpi : (Tryz.prog.info? 27).map (·.size) = some p.size := by rw [hp.size]; kernel_rfl
  have HI := lh hpi
  obtain ⟨w0, hw0⟩ := nXe (w.alloc (.cells p 27))
  have hb0 : Below w.heap.size w w0 := by rw [hw0]; exact (Below.refl _ w).alloc (Nat.le_refl _) _
  have HX0 := lh (show w0.heap[w.heap.size]? = some (.cells p 27 (0, 0)) by rw [hw0]; exact heap_new _ _)
  have HBL0 := lh hb0
  have HW0 := lh hw0
  have HV0 := lh (hv.below hb0)
  have HT := lh hT
  clear hT hTx hc hw0 hb0 hp hv hr hs he hpi hk hb
  go_enter Tryz.func8, Tryz.ntmps8
  go_wp2_with (first | (rw [← HW0.out]; refine wpList_load_row rfl _ _ rfl w.heap.size rfl _ p (0, 0) _ HX0.out Tryz.underlying27 rfl HI.out ?_) | fail)
  refine (HT.out w0 HV0.out).mono ?_
  rintro e' w1 ⟨rfl, hb⟩
  have HBL1 := tbB HBL0 hb
  clear hb
  unfold whyOf
  go_wp2
  go_ret
  exact ⟨rfl, HBL1.out⟩
 ·rw [if_pos rfl]
  refine EntV.Verify_of w p r ep ix pv e s hp hv hr he hs hc v sv _ (fun w' hw => ?_)
  have h := Verify_ok w' v L (sv) ix (bsOf ((EntS.text (entOf r ep ix pv e s)))) s (hb.below hw) (by rw [size_bsOf]; have := EntX.ent_len (EntS.check_iff.1 hc) hp.len; omega) hs (hk.below hw)
  rw [bl_bsOf] at h
  exact h
end Go.Proofs.YtkcikadgnnjjjaaGreatDoor.EgV
