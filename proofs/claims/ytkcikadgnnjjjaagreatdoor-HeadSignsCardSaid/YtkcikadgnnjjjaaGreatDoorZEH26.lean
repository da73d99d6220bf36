/-
  WHAT IS PROVED: plain laws of entries: what is signed, and its coding: no program. an entry is right or not, and what is signed. entries, heads, deals, proofs and messages as rows of cells, and when texts are such. what the listed variables are, and which rows entries and heads among the arguments are. what keys' sums come to, over natural numbers, where the kernel reckons fast. Plain: no program. entries' sums, bytes, signatures, and the statements' own check of them. Condition: what each theorem names.
-/
import Derived.Test.YtkcikadgnnjjjaaGreatDoorS0
import Derived.Test.YtkcikadgnnjjjaaGreatDoorZEHD12
set_option linter.unusedVariables false
set_option linter.unusedSimpArgs false
set_option maxRecDepth 100000
set_option maxHeartbeats 4000000
namespace Go.Proofs.YtkcikadgnnjjjaaGreatDoor.EntS
open OctetS IdentS ShaS
def checkB (e : Ent) : Bool := roomB e.room && (placeB e.ep && (placeB e.ix && (decide (e.ev.length ≤ 8192) && decide (e.sig.length ≤ 8192))))
theorem check_iff {e : Ent} : checkB e = true ↔ Right e := by
 unfold checkB
 simp only [Bool.and_eq_true, place_iff, decide_eq_true_eq]
 exact ⟨fun ⟨a, b, c, d, f⟩ => ⟨a, b.1, b.2, c.1, c.2, d, f⟩, fun h => ⟨h.room, ⟨h.ep0, h.ep1⟩, ⟨h.ix0, h.ix1⟩, h.ev, h.sig⟩⟩
def textOf (e : Ent) : List UInt8 := if checkB e then text e else []
end Go.Proofs.YtkcikadgnnjjjaaGreatDoor.EntS
namespace Go.Proofs.YtkcikadgnnjjjaaGreatDoor.EntP
open Go Go.RowKit Go.Shelf OctetS IdentS EntS OctP OctQ IdentP IdentR EventP EventC
def entOf (r : ByteArray) (ep ix : Int) (pv : List UInt8) (e s : ByteArray) : Ent := ⟨bl r, ep, ix, pv, bl e, bl s⟩
theorem chk_eq (r : ByteArray) (ep ix : Int) (pv : List UInt8) (e s : ByteArray) : EntS.checkB (entOf r ep ix pv e s) = (roomB (bl r) && (placeB ep && (placeB ix && (decide (e.size ≤ 8192) && decide (s.size ≤ 8192))))) := by
 unfold EntS.checkB entOf
 simp only [bl_length]
theorem place_ok (w : World) (n : Int) : Calls Tryz.prog 65 #[.int .i64 n] w fun e w' => e = .returned (.bool (placeB n)) ∧ w = w' := by
 by_cases h0 : 0 ≤ n
 ·go_enter Tryz.func65, Tryz.ntmps65
  go_wp2
  go_ret
  exact ⟨by simp [placeB, h0], rfl⟩
 ·have h1 : decide (0 ≤ n) = false := by simpa using h0
  go_enter Tryz.func65, Tryz.ntmps65
  go_wp2
  go_ret
  exact ⟨by simp [placeB, h1], rfl⟩
theorem Check_ok (w : World) (p : Array Value) (r : ByteArray) (ep ix : Int) (pv : List UInt8) (e s : ByteArray) (hp : EntP p r ep ix pv e s) (hv : VarsI w) (hr : r.size ≤ 140737488351232) (he : e.size ≤ maxLen) (hs : s.size ≤ maxLen) :
 Calls Tryz.prog 30 #[.agg p] w (RB (.int .i64 (whyOf (EntS.checkB (entOf r ep ix pv e s)))) w) := by
 unfold maxLen at he hs
 rw [chk_eq]
 obtain ⟨rn, hR⟩ := room_at w r hr
 obtain ⟨rb, hrb⟩ := nXe (roomB (bl r))
 rw [← hrb] at hR ⊢
 clear hrb
 have hPe := fun w => place_ok w ep
 have hPi := fun w => place_ok w ix
 obtain ⟨pe, hpe⟩ := nXe (placeB ep)
 obtain ⟨pi, hpi⟩ := nXe (placeB ix)
 rw [← hpe] at hPe ⊢
 rw [← hpi] at hPi ⊢
 clear hpe hpi
 obtain ⟨y, hy⟩ := nXe (whyOf (rb && (pe && (pi && (decide (e.size ≤ 8192) && decide (s.size ≤ 8192))))))
 rw [← hy]
 have Hy0 := lh hy
 clear hy
 have p0 := hp.c0
 have p1 := hp.c1
 have p2 := hp.c2
 have p35 := hp.c35
 have p36 := hp.c36
 obtain ⟨w0, hw0⟩ := nXe (w.alloc (.cells p 27))
 have hb0 : Below w.heap.size w w0 := by rw [hw0]; exact ((Below.refl _ w).alloc (Nat.le_refl _) _)
 have hx0 : w0.heap[w.heap.size]? = some (.cells p 27 (0, 0)) := by rw [hw0]; exact heap_new _ _
 have HBL0 := lh hb0
 have HW0 := lh hw0
 have lx0 := lt_row hx0
 obtain ⟨cx0, fx0⟩ := row_facts hx0
 have HV0 := lh (hv.below hb0)
 have HR := lh hR
 have HPe := lh hPe
 have HPi := lh hPi
 clear hR hPe hPi hv hb0 hw0 hr hp
 have hcase : rb = false ∨ (rb = true ∧ pe = false) ∨ (rb = true ∧ pe = true ∧ pi = false) ∨ (rb = true ∧ pe = true ∧ pi = true) := by
  cases rb <;> cases pe <;> cases pi <;> simp
 rcases hcase with rfl | ⟨rfl, rfl⟩ | ⟨rfl, rfl, rfl⟩ | ⟨rfl, rfl, rfl⟩
 all_goals
  go_enter Tryz.func30, Tryz.ntmps30
  go_wp2_with fail
  rw [← HW0.out]
  refine (HR.out w0 HV0.out).mono ?_
  rintro e w1 ⟨rfl, hb⟩
  have HBL1 := tbB HBL0 hb
  have hx1 := (hb.block _ lx0).trans hx0
  have lx1 := lt_row hx1
  obtain ⟨cx1, fx1⟩ := row_facts hx1
  have HV1 := lh (HV0.out.below hb)
  clear hb hx0 cx0 fx0
 ·go_wp2
  go_ret
  exact ⟨by rw [Hy0.out]; rfl, HBL1.out⟩
 ·go_wp2_with fail
  refine (HPe.out w1).mono ?_
  rintro e' w2 ⟨rfl, rfl⟩
  go_wp2
  go_ret
  exact ⟨by rw [Hy0.out]; rfl, HBL1.out⟩
 ·go_wp2_with fail
  refine (HPe.out w1).mono ?_
  rintro e' w2 ⟨rfl, rfl⟩
  go_wp2_with fail
  refine (HPi.out w1).mono ?_
  rintro e' w2 ⟨rfl, rfl⟩
  go_wp2
  go_ret
  exact ⟨by rw [Hy0.out]; rfl, HBL1.out⟩
 ·have hy' : (e.size ≤ 8192 ∧ s.size ≤ 8192 ∧ y = 0) ∨ (¬ (e.size ≤ 8192 ∧ s.size ≤ 8192) ∧ y = 2) := by
   rw [Hy0.out]
   unfold whyOf
   simp only [Bool.true_and, Bool.and_eq_true, decide_eq_true_eq]
   by_cases h : e.size ≤ 8192 ∧ s.size ≤ 8192
   ·rw [if_pos h]
    exact .inl ⟨h.1, h.2, rfl⟩
   ·rw [if_neg h]
    exact .inr ⟨h, rfl⟩
  have Hy := lh hy'
  clear hy'
  go_wp2_with fail
  refine (HPe.out w1).mono ?_
  rintro e' w2 ⟨rfl, rfl⟩
  go_wp2_with fail
  refine (HPi.out w1).mono ?_
  rintro e' w2 ⟨rfl, rfl⟩
  go_wp2
  all_goals
   go_ret
   refine ⟨?_, HBL1.out⟩
   have hy := Hy.out
   first
        | (obtain rfl : y = 0 := by omega
           rfl)
        | (obtain rfl : y = 2 := by omega
           rfl)
theorem Text_ok (w : World) (p : Array Value) (r : ByteArray) (ep ix : Int) (pv : List UInt8) (e s : ByteArray) (hp : EntP p r ep ix pv e s) (hv : VarsI w) (hr : r.size ≤ 140737488351232) (he : e.size ≤ maxLen) (hs : s.size ≤ maxLen) :
 Calls Tryz.prog 28 #[.agg p] w (RB (.tuple #[.string (bsOf (EntS.textOf (entOf r ep ix pv e s))), .int .i64 (whyOf (EntS.checkB (entOf r ep ix pv e s)))]) w) := by
 have hC := fun w hv => Check_ok w p r ep ix pv e s hp hv hr he hs
 have p0 := hp.c0
 have p1 := hp.c1
 have p2 := hp.c2
 have p35 := hp.c35
 have hps := hp.size
 have hpi : (Tryz.prog.info? 27).map (·.size) = some 37 := by kernel_rfl
 rw [← hps] at hpi
 have HI := lh hpi
 clear hpi hps
 obtain ⟨w0, hw0⟩ := nXe (w.alloc (.cells p 27))
 have hb0 : Below w.heap.size w w0 := by rw [hw0]; exact ((Below.refl _ w).alloc (Nat.le_refl _) _)
 have hx0 : w0.heap[w.heap.size]? = some (.cells p 27 (0, 0)) := by rw [hw0]; exact heap_new _ _
 have HBL0 := lh hb0
 have HW0 := lh hw0
 have lx0 := lt_row hx0
 obtain ⟨cx0, fx0⟩ := row_facts hx0
 have HV0 := lh (hv.below hb0)
 unfold EntS.textOf
 unfold maxLen at he hs
 have HP := lh hp
 have Hx0 := lh hx0
 cases hchk : EntS.checkB (entOf r ep ix pv e s)
 ·skip
  rw [hchk] at hC
  have HC := lh hC
  clear hC hchk hr he hs hp hb0 hv hw0
  go_enter Tryz.func28, Tryz.ntmps28
  go_wp2_with (first | (rw [← HW0.out]; refine wpList_load_row rfl _ _ rfl w.heap.size rfl _ p (0, 0) _ Hx0.out Tryz.underlying27 rfl HI.out ?_) | fail)
  refine (HC.out w0 HV0.out).mono ?_
  rintro e' w1 ⟨rfl, hb⟩
  have HBL1 := tbB HBL0 hb
  have hx1 := (hb.block _ lx0).trans hx0
  have lx1 := lt_row hx1
  obtain ⟨cx1, fx1⟩ := row_facts hx1
  have HV1 := lh (HV0.out.below hb)
  clear hb hx0 cx0 fx0
  unfold whyOf
  go_wp2
  go_ret2
  exact ⟨rfl, HBL1.out⟩
 ·skip
  have hR := EntS.check_iff.1 hchk
  have h0 := hR.ep0
  have h1 := hR.ep1
  have h2 := hR.ix0
  have h3 := hR.ix1
  have hfit := hR.fits hp.len
  simp only [entOf] at h0 h1 h2 h3
  obtain ⟨m, rfl⟩ : ∃ m : Nat, ep = m := ⟨ep.toNat, by omega⟩
  obtain ⟨j, rfl⟩ : ∃ j : Nat, ix = j := ⟨ix.toNat, by omega⟩
  have hparts : EntS.parts (entOf r m j pv e s) = [bsOf EntS.mark, r, bsOf (num m), bsOf (num j), bsOf pv, e].map bl := by
   simp [EntS.parts, entOf, bl_bsOf]
  have hfin : EntS.text (entOf r m j pv e s) = OctetS.list ([bsOf EntS.mark, r, bsOf (num m), bsOf (num j), bsOf pv, e].map bl) := by
   unfold EntS.text
   rw [hparts]
  rw [if_pos rfl, hfin]
  rw [hparts] at hfit
  have hL := fun w v h => List_ok w v [bsOf EntS.mark, r, bsOf (num m), bsOf (num j), bsOf pv, e] h hfit
  rw [hchk] at hC
  obtain ⟨out, hout⟩ := nXe (bsOf (OctetS.list ([bsOf EntS.mark, r, bsOf (num m), bsOf (num j), bsOf pv, e].map bl)))
  obtain ⟨n1, hn1⟩ := nXe (bsOf (num m))
  obtain ⟨n2, hn2⟩ := nXe (bsOf (num j))
  obtain ⟨q, hq⟩ := nXe (bsOf pv)
  have hN1 := fun w => Num_ok w m (by unfold maxNum; omega)
  have hN2 := fun w => Num_ok w j (by unfold maxNum; omega)
  rw [← hn1] at hN1
  rw [← hn2] at hN2
  rw [← hout]
  rw [← hout, ← hn1, ← hn2, ← hq] at hL
  have HC := lh hC
  have HN1 := lh hN1
  have HN2 := lh hN2
  have HL := lh hL
  have HQ := lh hq
  clear hC hN1 hN2 hL hn1 hn2 hout hfin hparts hfit hR hchk hq hr he hs hp hb0 hv hw0
  go_enter Tryz.func28, Tryz.ntmps28
  go_wp2_with (first | (rw [← HW0.out]; refine wpList_load_row rfl _ _ rfl w.heap.size rfl _ p (0, 0) _ Hx0.out Tryz.underlying27 rfl HI.out ?_) | fail)
  refine (HC.out w0 HV0.out).mono ?_
  rintro e' w1 ⟨rfl, hb⟩
  have HBL1 := tbB HBL0 hb
  have hx1 := (hb.block _ lx0).trans hx0
  have lx1 := lt_row hx1
  obtain ⟨cx1, fx1⟩ := row_facts hx1
  have HV1 := lh (HV0.out.below hb)
  clear hb hx0 cx0 fx0
  unfold whyOf
  go_wp2_with fail
  refine (HN1.out w1).mono ?_
  rintro e w2 ⟨rfl, hb⟩
  have HBL2 := tbB HBL1 hb
  have hx2 := (hb.block _ lx1).trans hx1
  have lx2 := lt_row hx2
  obtain ⟨cx2, fx2⟩ := row_facts hx2
  have HV2 := lh (HV1.out.below hb)
  clear hb hx1 cx1 fx1
  go_wp2_with fail
  refine (HN2.out w2).mono ?_
  rintro e w3 ⟨rfl, hb⟩
  have HBL3 := tbB HBL2 hb
  have hx3 := (hb.block _ lx2).trans hx2
  have lx3 := lt_row hx3
  obtain ⟨cx3, fx3⟩ := row_facts hx3
  have HV3 := lh (HV2.out.below hb)
  clear hb hx2 cx2 fx2
  go_wp2_with fail
  refine wp_region_noPanic ?_
  refine Wr.region_K (S := (fun W => W.heap[w.heap.size]? = some (.cells p 27 (0, 0)))) (K := []) (by kernel_rfl) ?_
  change Wr.wpAnyK _ _ _ _ _ _ _ _ _ (World.drew w3)
  have hS0 : (World.drew w3).heap[w.heap.size]? = some (.cells p 27 (0, 0)) := hx3
  have hBL0 : Below w3.heap.size w3 (World.drew w3) := Bl.drew (Below.refl _ _)
  refine Wr.tkK (i := 0) (v := ?_) rfl (.inl ⟨by rfl, ?_⟩) hS0 ?_
  rotate_left
  ·intro wq hSw
   have q0 := hSw
   obtain ⟨qc0, qf0⟩ := row_facts q0
   go_simp
   rfl
  simp only [Act.put, sxx]
  refine Wr.tkK (i := 1) (v := ?_) rfl (.inl ⟨by rfl, ?_⟩) hS0 ?_
  rotate_left
  ·intro wq hSw
   have q0 := hSw
   obtain ⟨qc0, qf0⟩ := row_facts q0
   go_simp
   rfl
  simp only [Act.put, sxx]
  refine Wr.tkK (i := 2) (v := ?_) rfl (.inl ⟨by rfl, ?_⟩) hS0 ?_
  rotate_left
  ·intro wq hSw
   have q0 := hSw
   obtain ⟨qc0, qf0⟩ := row_facts q0
   go_simp
   rfl
  simp only [Act.put, sxx]
  refine Wr.tkK (i := 3) (v := ?_) rfl (.inl ⟨by rfl, ?_⟩) hS0 ?_
  rotate_left
  ·intro wq hSw
   have q0 := hSw
   obtain ⟨qc0, qf0⟩ := row_facts q0
   go_simp
   rfl
  simp only [Act.put, sxx]
  refine Wr.tkK (i := 4) (v := ?_) rfl (.inl ⟨by rfl, ?_⟩) hS0 ?_
  rotate_left
  ·intro wq hSw
   have q0 := hSw
   obtain ⟨qc0, qf0⟩ := row_facts q0
   go_simp
   rfl
  simp only [Act.put, sxx]
  refine Wr.tkK (i := 5) (v := ?_) rfl (.inl ⟨by rfl, ?_⟩) hS0 ?_
  rotate_left
  ·intro wq hSw
   have q0 := hSw
   obtain ⟨qc0, qf0⟩ := row_facts q0
   go_simp
   rfl
  simp only [Act.put, sxx]
  refine Wr.tkK (i := 6) (v := (.string q)) rfl (.inl ⟨by rfl, ?_⟩) hS0 ?_
  ·intro wq hSw
   have q0 := hSw
   obtain ⟨qc0, qf0⟩ := row_facts q0
   have hcv := run_text' wq 101 9 5 Tryz.underlying101 Tryz.underlying5 Tryz.underlying9 _ _ (HP.out.sl q0)
   rw [← HQ.out] at hcv
   go_simp
  simp only [Act.put, sxx]
  refine Wr.tkK (i := 7) (v := ?_) rfl (.inl ⟨by rfl, ?_⟩) hS0 ?_
  rotate_left
  ·intro wq hSw
   have q0 := hSw
   obtain ⟨qc0, qf0⟩ := row_facts q0
   go_simp
   rfl
  simp only [Act.put, sxx]
  refine Wr.tkK (i := 8) (v := ?_) rfl (.inl ⟨by rfl, ?_⟩) hS0 ?_
  rotate_left
  ·intro wq hSw
   have q0 := hSw
   obtain ⟨qc0, qf0⟩ := row_facts q0
   go_simp
   rfl
  simp only [Act.put, sxx]
  refine Wr.wpAnyK_one (i := 9) (by kernel_rfl) ?_
  refine wpOp_run rfl (by rfl) (w' := (World.drew w3).alloc (.cells #[.string ⟨#[101, 110, 116, 114, 121]⟩, .string r, .string n1, .string n2, .string q, .string e] 9)) (v := .slice (some ⟨(World.drew w3).heap.size, 0, none⟩) 6 6) (by go_simp; first | done | rfl) ?_
  obtain ⟨w6, hw_w6⟩ := nXe ((World.drew w3).alloc (.cells #[.string ⟨#[101, 110, 116, 114, 121]⟩, .string r, .string n1, .string n2, .string q, .string e] 9))
  rw [← hw_w6]
  have hb_w6 : Below (World.drew w3).heap.size (World.drew w3) w6 := by rw [hw_w6]; exact bAx
  have hn_w6 : w6.heap[(World.drew w3).heap.size]? = some (.cells #[.string ⟨#[101, 110, 116, 114, 121]⟩, .string r, .string n1, .string n2, .string q, .string e] 9 (0, 0)) := by rw [hw_w6]; exact heap_new' _ rfl
  have hS1 : w6.heap[w.heap.size]? = some (.cells p 27 (0, 0)) := (hb_w6.block _ (lt_row (hS0))).trans (hS0)
  have hBL1 : Below w3.heap.size w3 w6 := hBL0.trans (hb_w6.mono hBL0.size)
  clear hw_w6
  refine ⟨hS1, ?_⟩
  simp only [Act.put, sxx]
  refine Wr.wpAnyK_one (i := 10) (by kernel_rfl) ?_
  refine wpOp_call rfl (by rfl) (by go_simp; all_goals (and_intros <;> rfl)) ?_
  refine (HL.out w6 _ (EventB.sl_built hn_w6 rfl (by simp [maxLen]))).mono ?_
  rintro e w7 ⟨rfl, hb_w7⟩
  have hS2 : w7.heap[w.heap.size]? = some (.cells p 27 (0, 0)) := (hb_w7.block _ (lt_row (hS1))).trans (hS1)
  have hBL2 : Below w3.heap.size w3 w7 := hBL1.trans (hb_w7.mono hBL1.size)
  refine ⟨_, rfl, ?_, ?_⟩
  ·exact hS2
  simp only [Act.put, sxx]
  refine Wr.tkK (i := 11) (v := ?_) rfl (.inl ⟨by rfl, ?_⟩) hS2 ?_
  rotate_left
  ·intro wq hSw
   have q0 := hSw
   obtain ⟨qc0, qf0⟩ := row_facts q0
   go_simp
   rfl
  simp only [Act.put, sxx]
  refine Wr.tkK (i := 12) (v := ?_) rfl (.inl ⟨by rfl, ?_⟩) hS2 ?_
  rotate_left
  ·intro wq hSw
   have q0 := hSw
   obtain ⟨qc0, qf0⟩ := row_facts q0
   go_simp
   rfl
  simp only [Act.put, sxx]
  refine Wr.tkK (i := 13) (v := ?_) rfl (.inl ⟨by rfl, ?_⟩) hS2 ?_
  rotate_left
  ·intro wq hSw
   have q0 := hSw
   obtain ⟨qc0, qf0⟩ := row_facts q0
   go_simp
   rfl
  simp only [Act.put, sxx]
  refine Wr.tkK (i := 14) (v := ?_) rfl (.inl ⟨by rfl, ?_⟩) hS2 ?_
  rotate_left
  ·intro wq hSw
   have q0 := hSw
   obtain ⟨qc0, qf0⟩ := row_facts q0
   go_simp
   rfl
  simp only [Act.put, sxx]
  refine Wr.wpAnyK_done (by kernel_rfl) (NoPanic.normal ?_) _
  go_wp2
  go_ret2
  exact ⟨rfl, HBL3.out.trans (hBL2.mono HBL3.out.size)⟩
end Go.Proofs.YtkcikadgnnjjjaaGreatDoor.EntP
namespace Go.Proofs.YtkcikadgnnjjjaaGreatDoor.WireT
open Go Go.RowKit Go.Shelf OctetS IdentS EntS WireS OctG OctP OctQ EventP EventC EntP
/-! ### Small numbers -/
/-! ### A list, and its cells -/
/-! ### Entries -/
theorem entA_one (r : ByteArray) (ep ix : Int) (pv : List UInt8) (e s : ByteArray) : (entA r ep ix pv e s).all (·.oneCell') = true := by
 simp [entA, byV, Value.oneCell']
theorem entA_size {r : ByteArray} {ep ix : Int} {pv : List UInt8} {e s : ByteArray} (h : pv.length = 32) : (entA r ep ix pv e s).size = 37 := by simp [entA, byV_length, h]
theorem zero32_len : zero32.length = 32 := rfl
/-! ### Heads -/
/-! ### Bytes: two texts -/
/-! ### Deals -/
/-! ### Proofs -/
/-! ### Rejections -/
/-! ### Messages -/
/-! ### Results and rows -/
/-! ### More ways to see a list, and a text -/
theorem bsOf_nil : bsOf [] = ⟨#[]⟩ := rfl
end Go.Proofs.YtkcikadgnnjjjaaGreatDoor.WireT
namespace Go.Proofs.YtkcikadgnnjjjaaGreatDoor.LaidI
open Go Go.ChangeShapes Go.WideShapes Go.RowKit U32 ShaS ShaA IdentP EntP
section
variable {H : Type} {enc : TypeId × Value → H} {w : World} {base : Nat} {spare : Nat → Bool} {held : Bool} {fuel : Nat} {cs : List Value} {x : DataW H × List MemPlace}
theorem flatHash3 : flat Tryz.prog 4 25 = some (List.replicate 32 (some (some .u8))) := by kernel_rfl
end
end Go.Proofs.YtkcikadgnnjjjaaGreatDoor.LaidI
noncomputable section
namespace Go.Proofs.YtkcikadgnnjjjaaGreatDoor.KeyN
open ShaS KeyS NSha
set_option maxRecDepth 100000
def digMN (t : List Nat) : List Nat := (NSha.mid t).flatMap digs4
def digitsN (t : List Nat) : List Nat := digMN t ++ digs4 (lackOf (digMN t))
theorem digM_eq (t : List UInt8) : digM t = digMN (bN t) := by
 unfold digM digMN
 rw [mid_eq]
 generalize ShaS.mid t = l
 induction l with
 | nil => rfl
 | cons x r ih => rw [List.flatMap_cons, bN_cons, List.flatMap_cons, ih]
theorem digits_eq (t : List UInt8) : digits t = digitsN (bN t) := by
 unfold digits digitsN
 rw [digM_eq]
theorem recover_steps (seed text other : List UInt8) : recover other (sign seed text) = steps seed (fun j => (digits text).getD j 0 + (3 - (digits other).getD j 0)) := by
 have h : recT (sign seed text) (digits other) 68 = 4 :: (List.range 68).flatMap fun j => on ((digits text).getD j 0 + (3 - (digits other).getD j 0)) (KeyS.start seed j) := by
  unfold recT sign signN
  refine congrArg (List.cons 4) (flat_same _ _ _ (fun j hj => ?_))
  rw [piece (fun k => on_length (start_length seed k) _) 68 j (by simpa using hj), on_add]
 unfold recover steps
 rw [h]
/-! ### The key that the statements' own checks use: seed "s", height one -/
theorem path_one (l : Hs) : path 1 l 0 = [l.getD 1 []] := rfl
theorem climb_one (x p : List UInt8) : climb x 0 [p] = above x p := rfl
theorem climb_other (text other : List UInt8) : climbOf 1 other (sigOf [115] 1 0 text) = above (recover other (sign (placeSeed [115] 0) text)) (pub (placeSeed [115] 1)) := by
 have h1 := climbOf_sig (h := 1) (i := 0) (by decide) (by decide) [115] text other
 have h2 := leavesN_get [115] (n := 2 ^ 1) (i := 1) (by decide)
 generalize leavesN [115] (2 ^ 1) = l at h1 h2
 rw [path_one, h2, climb_one] at h1
 exact h1
theorem other_no {text other : List UInt8} {t o : List Nat} {r b : List Nat} (ht : bN text = t) (ho : bN other = o) (hr : (stepsN p0 (fun j => (digitsN t).getD j 0 + (3 - (digitsN o).getD j 0)) == r) = true) (hb : (NSha.sum (1 :: (r ++ [116, 114, 126, 235, 204, 156, 53, 229, 79, 85, 47, 115, 7, 142, 228, 51, 173, 35, 236, 27, 117, 190, 31, 217, 22, 236, 238, 183, 255, 165, 187, 204])) == b) = true) (hne : b ≠ [1, 182, 6, 211, 135, 147, 53, 5, 245, 241, 205, 252, 197, 223, 231, 32, 130, 117, 182, 46, 173, 16, 191, 101, 209, 159, 7, 102, 245, 140, 192, 251]) : climbOf 1 other (sigOf [115] 1 0 text) ≠ rootOf [115] 1 := by
 intro h
 have h1 := congrArg bN h
 have h2 : bN (recover other (sign (placeSeed [115] 0) text)) = r := by
  rw [recover_steps, digits_eq, digits_eq, ht, ho]
  exact steps_of p0_eq hr
 rw [climb_other, root_s, above_eq, leaf1, h2, eq_of_beq hb] at h1
 exact hne h1
end Go.Proofs.YtkcikadgnnjjjaaGreatDoor.KeyN
end
namespace Go.Proofs.YtkcikadgnnjjjaaGreatDoor.EntX
open Go Go.RowKit Go.Shelf OctetS IdentS EntS OctP OctG IdentP EntP EventC EventP ShaA Steps KeyA TreeA
theorem ent_len {e : Ent} (h : Right e) (hp : e.prev.length = 32) : (EntS.text e).length ≤ 100000 := by
 obtain ⟨h1, h2⟩ := fits_iff.1 (h.fits hp)
 have h3 := flat_len _ h2
 have h4 : (EntS.parts e).length = 6 := rfl
 have h5 := OctetS.num_length2 (n := 6) (by omega)
 unfold EntS.text OctetS.list
 rw [List.length_append, h4]
 rw [h4] at h3
 omega
end Go.Proofs.YtkcikadgnnjjjaaGreatDoor.EntX
namespace Go.Proofs.YtkcikadgnnjjjaaGreatDoor.EqEnt
open Go Go.RowKit ShaB EqHash EntP OctP
theorem eqHashD (d : Nat) (a b : List UInt8) (w : World) : (Op.equalIn (d + 2) 25 (.agg (pB 32 a)) (.agg (pB 32 b))).run Tryz.prog w = .ok (hEq a b) w := by
 have hu : Tryz.prog.underlying 25 = some (.array 32 5) := by kernel_rfl
 have hc : Tryz.prog.cellsOf 5 = 1 := by kernel_rfl
 have hi : ∃ i, Tryz.prog.info? 5 = some i := info_of_underlying (show Tryz.prog.underlying 5 = some (.int .u8) by kernel_rfl)
 obtain ⟨i, hi⟩ := hi
 rw [show d + 2 = (d + 1) + 1 from rfl, run_equalIn_array w (d + 1) _ _ hu hi, hc]
 exact items w d a b (List.range 32) (fun i hi => by simpa using hi)
theorem pB_of {l : List UInt8} (h : l.length = 32) : (byV l).toArray = pB 32 l := by
 unfold pB
 simp [h]
theorem part_hash (w : World) (xs : Array Value) (off : Nat) : (part 25 xs off).run Tryz.prog w = .ok (.agg (xs.extract off (off + 32))) w := by
 have hu : Tryz.prog.underlying 25 = some (.array 32 5) := by kernel_rfl
 obtain ⟨i, hi⟩ := info_of_underlying (P := Tryz.prog) hu
 have hc : Tryz.prog.cellsOf 25 = 32 := by kernel_rfl
 have hs := run_sizeOf w hi
 rw [hc] at hs
 simp [part, isAgg, run_underlying hu, Sem.run_bind, hs]
theorem eqF_cons {P : Program} {w : World} {d : Nat} {xs ys : Array Value} {f : Field} {fs : List Field} {x y : Value} {r s : Bool} (hn : f.name ≠ "_") (h1 : (part f.type xs f.offset).run P w = .ok x w) (h2 : (part f.type ys f.offset).run P w = .ok y w)
 (h3 : (Op.equalIn d f.type x y).run P w = .ok r w) (h4 : (Op.eqFields d xs ys fs).run P w = .ok s w) : (Op.eqFields d xs ys (f :: fs)).run P w = .ok (r && s) w := by
 unfold Op.eqFields
 rw [if_pos hn]
 simp only [Sem.run_bind, h1, h2, h3, Result.andThen_ok]
 cases r
 ·simp
 ·simpa using h4
theorem eqF_nil {P : Program} {w : World} {d : Nat} {xs ys : Array Value} : (Op.eqFields d xs ys []).run P w = .ok true w := by simp [Op.eqFields]
end Go.Proofs.YtkcikadgnnjjjaaGreatDoor.EqEnt
namespace Go.Proofs.YtkcikadgnnjjjaaGreatDoor.EntK
open OctetS IdentS EntS KeyS KeyN NSha
set_option maxRecDepth 100000
def z32 : List UInt8 := List.replicate 32 0
theorem z32_len : z32.length = 32 := rfl
def ent (ix : Nat) (s : List UInt8) : Ent := ⟨rm, 1, (ix : Int), z32, [120], s⟩
theorem right {ix : Nat} (hi : ix ≤ 4096) {s : List UInt8} (hs : s.length ≤ 8192) : Right (ent ix s) := ⟨room0, by show (0 : Int) ≤ 1; omega, by show (1 : Int) ≤ 4096; omega, by show (0 : Int) ≤ ix; omega, by show (ix : Int) ≤ 4096; omega, by show 1 ≤ 8192; omega, hs⟩
theorem lt5 : OctetS.list [EntS.mark, rm, num 1, num 5, z32, [120]] = T5 := by decide +kernel
theorem text5 (s : List UInt8) : EntS.text (ent 5 s) = T5 := by
 rw [← lt5]
 rfl
theorem check5 {s : List UInt8} (hs : s.length ≤ 8192) : checkB (ent 5 s) = true := check_iff.2 (right (by omega) hs)
end Go.Proofs.YtkcikadgnnjjjaaGreatDoor.EntK
namespace Go.Proofs.YtkcikadgnnjjjaaGreatDoor.EntL
open Go Go.RowKit Go.Shelf OctetS IdentS EntS OctG IdentP EntP EventC ShaA Steps KeyA KeyS KeyI KeyK TreeA EntK BookA
def xB : ByteArray := bsOf [120]
theorem xB_z : xB.size ≤ maxLen := by decide +kernel
theorem of_ent (ix : Nat) (s : List UInt8) : entOf rB 1 (ix : Int) z32 xB (bsOf s) = ent ix s := by
 unfold entOf rB xB ent
 rw [bl_bsOf, bl_bsOf, bl_bsOf]
def eA (ix : Nat) (s : ByteArray) : Array Value := entA rB 1 (ix : Int) z32 xB s
theorem eP (ix : Nat) (s : ByteArray) : EntP (eA ix s) rB 1 (ix : Int) z32 xB s := ⟨rfl, z32_len⟩
theorem check_n : EntS.checkB (entOf rB 1 ((5 : Nat) : Int) z32 xB nB) = true := by
 rw [nB_of, of_ent]
 exact check5 (by simp)
theorem text_n : EntS.text (entOf rB 1 ((5 : Nat) : Int) z32 xB nB) = T5 := by
 rw [nB_of, of_ent]
 exact text5 _
end Go.Proofs.YtkcikadgnnjjjaaGreatDoor.EntL
