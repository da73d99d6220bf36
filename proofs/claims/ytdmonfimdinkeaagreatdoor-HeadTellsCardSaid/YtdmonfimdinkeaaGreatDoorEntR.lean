/-
  WHAT IS PROVED: by the document an entry is right or not, and what is signed. Condition: what each theorem names.
-/
import Derived.Test.YtdmonfimdinkeaaGreatDoorEnt
import Derived.Test.YtdmonfimdinkeaaGreatDoorRef1
import Derived.Test.YtdmonfimdinkeaaGreatDoorEvR
namespace Go.Proofs.YtdmonfimdinkeaaGreatDoor.EntR
open Go Go.RowKit Go.Shelf Go.Proofs.YtdmonfimdinkeaaGreatDoor Go.Proofs.YtdmonfimdinkeaaGreatDoor.OctetS Go.Proofs.YtdmonfimdinkeaaGreatDoor.IdentS Go.Proofs.YtdmonfimdinkeaaGreatDoor.EntS Go.Proofs.YtdmonfimdinkeaaGreatDoor.OctP Go.Proofs.YtdmonfimdinkeaaGreatDoor.OctQ Go.Proofs.YtdmonfimdinkeaaGreatDoor.EventP Go.Proofs.YtdmonfimdinkeaaGreatDoor.EventC Go.Proofs.YtdmonfimdinkeaaGreatDoor.EntP
set_option linter.unusedVariables false
set_option linter.unusedSimpArgs false

set_option maxRecDepth 100000 in
set_option maxHeartbeats 4000000 in
theorem Check_ok (w : World) (p : Array Value) (r : ByteArray) (ep ix : Int) (pv : List UInt8) (e s : ByteArray) (hp : EntP p r ep ix pv e s) (hr : r.size ≤ 140737488351232) (he : e.size ≤ maxLen) (hs : s.size ≤ maxLen) :
    Calls Tryz.prog 96 #[.agg p] w (RB (.int .i64 (whyOf (EntS.checkB (entOf r ep ix pv e s)))) w) := by
  unfold maxLen at he hs
  rw [chk_eq]
  obtain ⟨rn, hR⟩ := EvRC.room_at r hr
  obtain ⟨rb, hrb⟩ : ∃ x, x = roomB (bl r) := ⟨_, rfl⟩
  rw [← hrb] at hR ⊢
  clear hrb
  obtain ⟨y, hy⟩ : ∃ y, y = whyOf (rb && (placeB ep && (placeB ix && (decide (e.size ≤ 8192) && decide (s.size ≤ 8192))))) := ⟨_, rfl⟩
  rw [← hy]
  have Hy0 := Lib.hid hy
  clear hy
  have p0 := hp.c0
  have p1 := hp.c1
  have p2 := hp.c2
  have p35 := hp.c35
  have p36 := hp.c36
  obtain ⟨w0, hw0⟩ : ∃ w0, w0 = w.alloc (.cells p 27) := ⟨_, rfl⟩
  have hb0 : Below w.heap.size w w0 := by rw [hw0]; exact ((Below.refl _ w).alloc (Nat.le_refl _) _)
  have hx0 : w0.heap[w.heap.size]? = some (.cells p 27 (0, 0)) := by rw [hw0]; exact heap_new _ _
  have HBL0 := Lib.hid hb0
  have HW0 := Lib.hid hw0
  have lx0 := lt_row hx0
  obtain ⟨cx0, fx0⟩ := row_facts hx0
  have HR := Lib.hid hR
  clear hR hb0 hw0 hr hp
  have hcase : rb = false ∨ rb = true := by cases rb <;> simp
  rcases hcase with rfl | rfl
  all_goals
    go_enter Tryz.func96, Tryz.ntmps96
    go_wp2_with fail
    rw [← HW0.out]
    refine (HR.out w0).mono ?_
    rintro e w1 ⟨rfl, hb⟩
    have HBL1 := Lib.hid (HBL0.out.trans (hb.mono HBL0.out.size))
    have hx1 := (hb.block _ lx0).trans hx0
    have lx1 := lt_row hx1
    obtain ⟨cx1, fx1⟩ := row_facts hx1
    clear hb hx0 cx0 fx0
  · go_wp2
    go_ret
    exact ⟨by rw [Hy0.out]; rfl, HBL1.out⟩
  · have hy' : (0 ≤ ep ∧ ep ≤ 4096 ∧ 0 ≤ ix ∧ ix ≤ 4096 ∧ e.size ≤ 8192 ∧ s.size ≤ 8192 ∧ y = 0) ∨ (¬ (0 ≤ ep ∧ ep ≤ 4096 ∧ 0 ≤ ix ∧ ix ≤ 4096 ∧ e.size ≤ 8192 ∧ s.size ≤ 8192) ∧ y = 2) := by
      rw [Hy0.out]
      unfold whyOf placeB
      simp only [Bool.true_and, Bool.and_eq_true, decide_eq_true_eq]
      by_cases h : 0 ≤ ep ∧ ep ≤ 4096 ∧ 0 ≤ ix ∧ ix ≤ 4096 ∧ e.size ≤ 8192 ∧ s.size ≤ 8192
      · rw [if_pos ⟨⟨h.1, h.2.1⟩, ⟨h.2.2.1, h.2.2.2.1⟩, h.2.2.2.2⟩]
        exact .inl ⟨h.1, h.2.1, h.2.2.1, h.2.2.2.1, h.2.2.2.2.1, h.2.2.2.2.2, rfl⟩
      · rw [if_neg (fun h' => h ⟨h'.1.1, h'.1.2, h'.2.1.1, h'.2.1.2, h'.2.2⟩)]
        exact .inr ⟨h, rfl⟩
    have Hy := Lib.hid hy'
    clear hy'
    go_wp2
    all_goals
      go_ret
      refine ⟨?_, HBL1.out⟩
      have hy := Hy.out
      first
        | (obtain rfl : y = 0 := by omega
           rfl)
        | (obtain rfl : y = 2 := by omega
           rfl)

set_option maxRecDepth 100000 in
set_option maxHeartbeats 4000000 in
theorem Text_ok (w : World) (p : Array Value) (r : ByteArray) (ep ix : Int) (pv : List UInt8) (e s : ByteArray) (hp : EntP p r ep ix pv e s) (hr : r.size ≤ 140737488351232) (he : e.size ≤ maxLen) (hs : s.size ≤ maxLen) :
    Calls Tryz.prog 74 #[.agg p] w (RB (.tuple #[.string (bsOf (EntS.textOf (entOf r ep ix pv e s))), .int .i64 (whyOf (EntS.checkB (entOf r ep ix pv e s)))]) w) := by
  have hC := fun w => Check_ok w p r ep ix pv e s hp hr he hs
  have p0 := hp.c0
  have p1 := hp.c1
  have p2 := hp.c2
  have p35 := hp.c35
  have hps := hp.size
  have hpi : (Tryz.prog.info? 27).map (·.size) = some 37 := by kernel_rfl
  rw [← hps] at hpi
  have HI := Lib.hid hpi
  clear hpi hps
  obtain ⟨w0, hw0⟩ : ∃ w0, w0 = w.alloc (.cells p 27) := ⟨_, rfl⟩
  have hb0 : Below w.heap.size w w0 := by rw [hw0]; exact ((Below.refl _ w).alloc (Nat.le_refl _) _)
  have hx0 : w0.heap[w.heap.size]? = some (.cells p 27 (0, 0)) := by rw [hw0]; exact heap_new _ _
  have HBL0 := Lib.hid hb0
  have HW0 := Lib.hid hw0
  have lx0 := lt_row hx0
  obtain ⟨cx0, fx0⟩ := row_facts hx0
  unfold EntS.textOf
  unfold maxLen at he hs
  have HP := Lib.hid hp
  have Hx0 := Lib.hid hx0
  cases hchk : EntS.checkB (entOf r ep ix pv e s)
  · skip
    rw [hchk] at hC
    have HC := Lib.hid hC
    clear hC hchk hr he hs hp hb0 hw0
    go_enter Tryz.func74, Tryz.ntmps74
    go_wp2_with (first | (rw [← HW0.out]; refine wpList_load_row rfl _ _ rfl w.heap.size rfl _ p (0, 0) _ Hx0.out Tryz.underlying27 rfl HI.out ?_) | fail)
    refine (HC.out w0).mono ?_
    rintro e' w1 ⟨rfl, hb⟩
    have HBL1 := Lib.hid (HBL0.out.trans (hb.mono HBL0.out.size))
    have hx1 := (hb.block _ lx0).trans hx0
    have lx1 := lt_row hx1
    obtain ⟨cx1, fx1⟩ := row_facts hx1
    clear hb hx0 cx0 fx0
    unfold whyOf
    go_wp2
    go_ret2
    exact ⟨rfl, HBL1.out⟩
  · skip
    have hR := EntS.check_iff.1 hchk
    have h0 := hR.ep0
    have h1 := hR.ep1
    have h2 := hR.ix0
    have h3 := hR.ix1
    have hfit := hR.fits hp.len
    simp only [entOf] at h0 h1 h2 h3
    obtain ⟨m, rfl⟩ : ∃ m : Nat, ep = m := ⟨ep.toNat, by omega⟩
    obtain ⟨j, rfl⟩ : ∃ j : Nat, ix = j := ⟨ix.toNat, by omega⟩
    have hparts : EntS.parts (entOf r m j pv e s) = [bsOf EntS.mark, r, bsOf (num m), bsOf (num j), bsOf pv, e].map bl := by
      simp [EntS.parts, entOf, bl_bsOf]
    have hfin : EntS.text (entOf r m j pv e s) = OctetS.list ([bsOf EntS.mark, r, bsOf (num m), bsOf (num j), bsOf pv, e].map bl) := by
      unfold EntS.text
      rw [hparts]
    rw [if_pos rfl, hfin]
    rw [hparts] at hfit
    have hL := fun w v h => Ref1L.List_ok w v [bsOf EntS.mark, r, bsOf (num m), bsOf (num j), bsOf pv, e] h hfit
    rw [hchk] at hC
    obtain ⟨out, hout⟩ : ∃ out, out = bsOf (OctetS.list ([bsOf EntS.mark, r, bsOf (num m), bsOf (num j), bsOf pv, e].map bl)) := ⟨_, rfl⟩
    obtain ⟨n1, hn1⟩ : ∃ nt, nt = bsOf (num m) := ⟨_, rfl⟩
    obtain ⟨n2, hn2⟩ : ∃ nt, nt = bsOf (num j) := ⟨_, rfl⟩
    obtain ⟨q, hq⟩ : ∃ nt, nt = bsOf pv := ⟨_, rfl⟩
    have hN1 := fun w => Ref1N.Num_ok w m (by unfold maxNum; omega)
    have hN2 := fun w => Ref1N.Num_ok w j (by unfold maxNum; omega)
    rw [← hn1] at hN1
    rw [← hn2] at hN2
    rw [← hout]
    rw [← hout, ← hn1, ← hn2, ← hq] at hL
    have HC := Lib.hid hC
    have HN1 := Lib.hid hN1
    have HN2 := Lib.hid hN2
    have HL := Lib.hid hL
    have HQ := Lib.hid hq
    clear hC hN1 hN2 hL hn1 hn2 hout hfin hparts hfit hR hchk hq hr he hs hp hb0 hw0
    go_enter Tryz.func74, Tryz.ntmps74
    go_wp2_with (first | (rw [← HW0.out]; refine wpList_load_row rfl _ _ rfl w.heap.size rfl _ p (0, 0) _ Hx0.out Tryz.underlying27 rfl HI.out ?_) | fail)
    refine (HC.out w0).mono ?_
    rintro e' w1 ⟨rfl, hb⟩
    have HBL1 := Lib.hid (HBL0.out.trans (hb.mono HBL0.out.size))
    have hx1 := (hb.block _ lx0).trans hx0
    have lx1 := lt_row hx1
    obtain ⟨cx1, fx1⟩ := row_facts hx1
    clear hb hx0 cx0 fx0
    unfold whyOf
    go_wp2_with fail
    refine (HN1.out w1).mono ?_
    rintro e w2 ⟨rfl, hb⟩
    have HBL2 := Lib.hid (HBL1.out.trans (hb.mono HBL1.out.size))
    have hx2 := (hb.block _ lx1).trans hx1
    have lx2 := lt_row hx2
    obtain ⟨cx2, fx2⟩ := row_facts hx2
    clear hb hx1 cx1 fx1
    go_wp2_with fail
    refine (HN2.out w2).mono ?_
    rintro e w3 ⟨rfl, hb⟩
    have HBL3 := Lib.hid (HBL2.out.trans (hb.mono HBL2.out.size))
    have hx3 := (hb.block _ lx2).trans hx2
    have lx3 := lt_row hx3
    obtain ⟨cx3, fx3⟩ := row_facts hx3
    clear hb hx2 cx2 fx2
    go_wp2_with fail
    refine wp_region_noPanic ?_
    refine Wr.region_K (S := (fun W => W.heap[w.heap.size]? = some (.cells p 27 (0, 0)))) (K := []) (by kernel_rfl) ?_
    change Wr.wpAnyK _ _ _ _ _ _ _ _ _ (World.drew w3)
    have hS0 : (World.drew w3).heap[w.heap.size]? = some (.cells p 27 (0, 0)) := hx3
    have hBL0 : Below w3.heap.size w3 (World.drew w3) := Bl.drew (Below.refl _ _)
    refine Wr.wpAnyK_take (i := 0) (v := ?_) rfl (by kernel_rfl) (fun _ _ _ h => h) (Or.inl ⟨by rfl, ?_⟩) hS0 ?_
    rotate_left
    · intro wq hSw
      have q0 := hSw
      obtain ⟨qc0, qf0⟩ := row_facts q0
      go_simp
      rfl
    simp only [Act.put, List.getElem_toArray, List.getElem_cons_zero, List.getElem_cons_succ, List.setIfInBounds_toArray, List.set_cons_zero, List.set_cons_succ]
    refine Wr.wpAnyK_take (i := 1) (v := ?_) rfl (by kernel_rfl) (fun _ _ _ h => h) (Or.inl ⟨by rfl, ?_⟩) hS0 ?_
    rotate_left
    · intro wq hSw
      have q0 := hSw
      obtain ⟨qc0, qf0⟩ := row_facts q0
      go_simp
      rfl
    simp only [Act.put, List.getElem_toArray, List.getElem_cons_zero, List.getElem_cons_succ, List.setIfInBounds_toArray, List.set_cons_zero, List.set_cons_succ]
    refine Wr.wpAnyK_take (i := 2) (v := ?_) rfl (by kernel_rfl) (fun _ _ _ h => h) (Or.inl ⟨by rfl, ?_⟩) hS0 ?_
    rotate_left
    · intro wq hSw
      have q0 := hSw
      obtain ⟨qc0, qf0⟩ := row_facts q0
      go_simp
      rfl
    simp only [Act.put, List.getElem_toArray, List.getElem_cons_zero, List.getElem_cons_succ, List.setIfInBounds_toArray, List.set_cons_zero, List.set_cons_succ]
    refine Wr.wpAnyK_take (i := 3) (v := ?_) rfl (by kernel_rfl) (fun _ _ _ h => h) (Or.inl ⟨by rfl, ?_⟩) hS0 ?_
    rotate_left
    · intro wq hSw
      have q0 := hSw
      obtain ⟨qc0, qf0⟩ := row_facts q0
      go_simp
      rfl
    simp only [Act.put, List.getElem_toArray, List.getElem_cons_zero, List.getElem_cons_succ, List.setIfInBounds_toArray, List.set_cons_zero, List.set_cons_succ]
    refine Wr.wpAnyK_take (i := 4) (v := ?_) rfl (by kernel_rfl) (fun _ _ _ h => h) (Or.inl ⟨by rfl, ?_⟩) hS0 ?_
    rotate_left
    · intro wq hSw
      have q0 := hSw
      obtain ⟨qc0, qf0⟩ := row_facts q0
      go_simp
      rfl
    simp only [Act.put, List.getElem_toArray, List.getElem_cons_zero, List.getElem_cons_succ, List.setIfInBounds_toArray, List.set_cons_zero, List.set_cons_succ]
    refine Wr.wpAnyK_take (i := 5) (v := ?_) rfl (by kernel_rfl) (fun _ _ _ h => h) (Or.inl ⟨by rfl, ?_⟩) hS0 ?_
    rotate_left
    · intro wq hSw
      have q0 := hSw
      obtain ⟨qc0, qf0⟩ := row_facts q0
      go_simp
      rfl
    simp only [Act.put, List.getElem_toArray, List.getElem_cons_zero, List.getElem_cons_succ, List.setIfInBounds_toArray, List.set_cons_zero, List.set_cons_succ]
    refine Wr.wpAnyK_take (i := 6) (v := (.string q)) rfl (by kernel_rfl) (fun _ _ _ h => h) (Or.inl ⟨by rfl, ?_⟩) hS0 ?_
    · intro wq hSw
      have q0 := hSw
      obtain ⟨qc0, qf0⟩ := row_facts q0
      have hcv := run_text' wq 66 9 5 Tryz.underlying66 Tryz.underlying5 Tryz.underlying9 _ _ (HP.out.sl q0)
      rw [← HQ.out] at hcv
      go_simp
    simp only [Act.put, List.getElem_toArray, List.getElem_cons_zero, List.getElem_cons_succ, List.setIfInBounds_toArray, List.set_cons_zero, List.set_cons_succ]
    refine Wr.wpAnyK_take (i := 7) (v := ?_) rfl (by kernel_rfl) (fun _ _ _ h => h) (Or.inl ⟨by rfl, ?_⟩) hS0 ?_
    rotate_left
    · intro wq hSw
      have q0 := hSw
      obtain ⟨qc0, qf0⟩ := row_facts q0
      go_simp
      rfl
    simp only [Act.put, List.getElem_toArray, List.getElem_cons_zero, List.getElem_cons_succ, List.setIfInBounds_toArray, List.set_cons_zero, List.set_cons_succ]
    refine Wr.wpAnyK_take (i := 8) (v := ?_) rfl (by kernel_rfl) (fun _ _ _ h => h) (Or.inl ⟨by rfl, ?_⟩) hS0 ?_
    rotate_left
    · intro wq hSw
      have q0 := hSw
      obtain ⟨qc0, qf0⟩ := row_facts q0
      go_simp
      rfl
    simp only [Act.put, List.getElem_toArray, List.getElem_cons_zero, List.getElem_cons_succ, List.setIfInBounds_toArray, List.set_cons_zero, List.set_cons_succ]
    refine Wr.wpAnyK_one (i := 9) (by kernel_rfl) ?_
    refine wpOp_run rfl (by rfl) (w' := (World.drew w3).alloc (.cells #[.string ⟨#[101, 110, 116, 114, 121]⟩, .string r, .string n1, .string n2, .string q, .string e] 9)) (v := .slice (some ⟨(World.drew w3).heap.size, 0, none⟩) 6 6) (by go_simp; first | done | rfl) ?_
    obtain ⟨w6, hw_w6⟩ : ∃ w6, w6 = (World.drew w3).alloc (.cells #[.string ⟨#[101, 110, 116, 114, 121]⟩, .string r, .string n1, .string n2, .string q, .string e] 9) := ⟨_, rfl⟩
    rw [← hw_w6]
    have hb_w6 : Below (World.drew w3).heap.size (World.drew w3) w6 := by rw [hw_w6]; exact (Below.refl _ _).alloc (Nat.le_refl _) _
    have hn_w6 : w6.heap[(World.drew w3).heap.size]? = some (.cells #[.string ⟨#[101, 110, 116, 114, 121]⟩, .string r, .string n1, .string n2, .string q, .string e] 9 (0, 0)) := by rw [hw_w6]; exact heap_new' _ rfl
    have hS1 : w6.heap[w.heap.size]? = some (.cells p 27 (0, 0)) := (hb_w6.block _ (lt_row (hS0))).trans (hS0)
    have hBL1 : Below w3.heap.size w3 w6 := hBL0.trans (hb_w6.mono hBL0.size)
    clear hw_w6
    refine ⟨hS1, ?_⟩
    simp only [Act.put, List.getElem_toArray, List.getElem_cons_zero, List.getElem_cons_succ, List.setIfInBounds_toArray, List.set_cons_zero, List.set_cons_succ]
    refine Wr.wpAnyK_one (i := 10) (by kernel_rfl) ?_
    refine wpOp_call rfl (by rfl) (by go_simp; first | done | rfl | exact ⟨⟨rfl, rfl⟩, rfl⟩ | exact ⟨rfl, rfl⟩) ?_
    refine (HL.out w6 _ (EventB.sl_built hn_w6 rfl (by simp [maxLen]))).mono ?_
    rintro e w7 ⟨rfl, hb_w7⟩
    have hS2 : w7.heap[w.heap.size]? = some (.cells p 27 (0, 0)) := (hb_w7.block _ (lt_row (hS1))).trans (hS1)
    have hBL2 : Below w3.heap.size w3 w7 := hBL1.trans (hb_w7.mono hBL1.size)
    refine ⟨_, rfl, ?_, ?_⟩
    · exact hS2
    simp only [Act.put, List.getElem_toArray, List.getElem_cons_zero, List.getElem_cons_succ, List.setIfInBounds_toArray, List.set_cons_zero, List.set_cons_succ]
    refine Wr.wpAnyK_take (i := 11) (v := ?_) rfl (by kernel_rfl) (fun _ _ _ h => h) (Or.inl ⟨by rfl, ?_⟩) hS2 ?_
    rotate_left
    · intro wq hSw
      have q0 := hSw
      obtain ⟨qc0, qf0⟩ := row_facts q0
      go_simp
      rfl
    simp only [Act.put, List.getElem_toArray, List.getElem_cons_zero, List.getElem_cons_succ, List.setIfInBounds_toArray, List.set_cons_zero, List.set_cons_succ]
    refine Wr.wpAnyK_take (i := 12) (v := ?_) rfl (by kernel_rfl) (fun _ _ _ h => h) (Or.inl ⟨by rfl, ?_⟩) hS2 ?_
    rotate_left
    · intro wq hSw
      have q0 := hSw
      obtain ⟨qc0, qf0⟩ := row_facts q0
      go_simp
      rfl
    simp only [Act.put, List.getElem_toArray, List.getElem_cons_zero, List.getElem_cons_succ, List.setIfInBounds_toArray, List.set_cons_zero, List.set_cons_succ]
    refine Wr.wpAnyK_take (i := 13) (v := ?_) rfl (by kernel_rfl) (fun _ _ _ h => h) (Or.inl ⟨by rfl, ?_⟩) hS2 ?_
    rotate_left
    · intro wq hSw
      have q0 := hSw
      obtain ⟨qc0, qf0⟩ := row_facts q0
      go_simp
      rfl
    simp only [Act.put, List.getElem_toArray, List.getElem_cons_zero, List.getElem_cons_succ, List.setIfInBounds_toArray, List.set_cons_zero, List.set_cons_succ]
    refine Wr.wpAnyK_take (i := 14) (v := ?_) rfl (by kernel_rfl) (fun _ _ _ h => h) (Or.inl ⟨by rfl, ?_⟩) hS2 ?_
    rotate_left
    · intro wq hSw
      have q0 := hSw
      obtain ⟨qc0, qf0⟩ := row_facts q0
      go_simp
      rfl
    simp only [Act.put, List.getElem_toArray, List.getElem_cons_zero, List.getElem_cons_succ, List.setIfInBounds_toArray, List.set_cons_zero, List.set_cons_succ]
    refine Wr.wpAnyK_done (by kernel_rfl) (NoPanic.normal ?_) _
    go_wp2
    go_ret2
    exact ⟨rfl, HBL3.out.trans (hBL2.mono HBL3.out.size)⟩

end Go.Proofs.YtdmonfimdinkeaaGreatDoor.EntR
