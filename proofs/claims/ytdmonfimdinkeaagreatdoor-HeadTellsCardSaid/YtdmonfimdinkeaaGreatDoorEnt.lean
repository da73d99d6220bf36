/-
  WHAT IS PROVED: an entry is right or not, and what is signed. Condition: the variables hold what 'VarsI' says, and what each theorem names.
-/
import Derived.Test.YtdmonfimdinkeaaGreatDoorEvent
import Derived.Test.YtdmonfimdinkeaaGreatDoorEntS
import Derived.Test.YtdmonfimdinkeaaGreatDoorWr
namespace Go.Proofs.YtdmonfimdinkeaaGreatDoor.EntP
open Go Go.RowKit Go.Shelf Go.Proofs.YtdmonfimdinkeaaGreatDoor Go.Proofs.YtdmonfimdinkeaaGreatDoor.OctetS Go.Proofs.YtdmonfimdinkeaaGreatDoor.IdentS Go.Proofs.YtdmonfimdinkeaaGreatDoor.EntS Go.Proofs.YtdmonfimdinkeaaGreatDoor.OctP Go.Proofs.YtdmonfimdinkeaaGreatDoor.OctQ Go.Proofs.YtdmonfimdinkeaaGreatDoor.IdentP Go.Proofs.YtdmonfimdinkeaaGreatDoor.IdentR Go.Proofs.YtdmonfimdinkeaaGreatDoor.EventP Go.Proofs.YtdmonfimdinkeaaGreatDoor.EventC
set_option linter.unusedVariables false
set_option linter.unusedSimpArgs false

/-- An entry's cells. -/
def entA (r : ByteArray) (ep ix : Int) (pv : List UInt8) (e s : ByteArray) : Array Value := ([.string r, .int .i64 ep, .int .i64 ix] ++ byV pv ++ [.string e, .string s] : List Value).toArray
def entOf (r : ByteArray) (ep ix : Int) (pv : List UInt8) (e s : ByteArray) : Ent := ⟨bl r, ep, ix, pv, bl e, bl s⟩
structure EntP (p : Array Value) (r : ByteArray) (ep ix : Int) (pv : List UInt8) (e s : ByteArray) : Prop where
  eq : p = entA r ep ix pv e s
  len : pv.length = 32
section
variable {p : Array Value} {r : ByteArray} {ep ix : Int} {pv : List UInt8} {e s : ByteArray}
theorem EntP.size (h : EntP p r ep ix pv e s) : p.size = 37 := by rw [h.eq]; simp [entA, byV_length, h.len]
theorem EntP.c0 (h : EntP p r ep ix pv e s) : p[0]? = some (.string r) := by rw [h.eq]; rfl
theorem EntP.c1 (h : EntP p r ep ix pv e s) : p[1]? = some (.int .i64 ep) := by rw [h.eq]; rfl
theorem EntP.c2 (h : EntP p r ep ix pv e s) : p[2]? = some (.int .i64 ix) := by rw [h.eq]; rfl
theorem EntP.cp (h : EntP p r ep ix pv e s) (j : Nat) (u : Value) (hj : (byV pv)[j]? = some u) : p[3 + j]? = some u := by
  have hl : j < 32 := by
    have := (List.getElem?_eq_some_iff.1 hj).1
    rw [byV_length, h.len] at this
    exact this
  rw [h.eq]
  unfold entA
  rw [List.getElem?_toArray, List.getElem?_append_left (by simp [byV_length, h.len]; omega), List.getElem?_append_right (by simp)]
  simpa using hj
theorem EntP.c35 (h : EntP p r ep ix pv e s) : p[35]? = some (.string e) := by
  rw [h.eq]
  unfold entA
  rw [List.getElem?_toArray, List.getElem?_append_right (by simp [byV_length, h.len])]
  simp [byV_length, h.len]
theorem EntP.c36 (h : EntP p r ep ix pv e s) : p[36]? = some (.string s) := by
  rw [h.eq]
  unfold entA
  rw [List.getElem?_toArray, List.getElem?_append_right (by simp [byV_length, h.len])]
  simp [byV_length, h.len]
/-- The bytes of the entry's link, where the entry lies. -/
theorem EntP.sl (h : EntP p r ep ix pv e s) {W : World} {B : Nat} {t : TypeId} (hb : W.heap[B]? = some (.cells p t (0, 0))) : Sl W (.slice (some ⟨B, 3, none⟩) 32 32) 1 pv.length (byV pv) := by
  rw [h.len]
  refine ⟨by rw [byV_length, h.len], .inr ⟨_, 32, rfl, Nat.le_refl _, by unfold maxLen; omega, fun j u hu => ?_⟩⟩
  rw [Addr.add_mid, cell_row hb]
  exact h.cp j u hu
end
theorem chk_eq (r : ByteArray) (ep ix : Int) (pv : List UInt8) (e s : ByteArray) : EntS.checkB (entOf r ep ix pv e s) = (roomB (bl r) && (placeB ep && (placeB ix && (decide (e.size ≤ 8192) && decide (s.size ≤ 8192))))) := by
  unfold EntS.checkB entOf
  simp only [bl_length]

theorem place_ok (w : World) (n : Int) : Calls Tryz.prog 79 #[.int .i64 n] w fun e w' => e = .returned (.bool (placeB n)) ∧ w = w' := by
  by_cases h0 : 0 ≤ n
  · go_enter Tryz.func79, Tryz.ntmps79
    go_wp2
    go_ret
    exact ⟨by simp [placeB, h0], rfl⟩
  · have h1 : decide (0 ≤ n) = false := by simpa using h0
    go_enter Tryz.func79, Tryz.ntmps79
    go_wp2
    go_ret
    exact ⟨by simp [placeB, h1], rfl⟩

set_option maxRecDepth 100000 in
set_option maxHeartbeats 4000000 in
theorem Check_ok (w : World) (p : Array Value) (r : ByteArray) (ep ix : Int) (pv : List UInt8) (e s : ByteArray) (hp : EntP p r ep ix pv e s) (hv : VarsI w) (hr : r.size ≤ 140737488351232) (he : e.size ≤ maxLen) (hs : s.size ≤ maxLen) :
    Calls Tryz.prog 59 #[.agg p] w (RB (.int .i64 (whyOf (EntS.checkB (entOf r ep ix pv e s)))) w) := by
  unfold maxLen at he hs
  rw [chk_eq]
  obtain ⟨rn, hR⟩ := room_at w r hr
  obtain ⟨rb, hrb⟩ : ∃ x, x = roomB (bl r) := ⟨_, rfl⟩
  rw [← hrb] at hR ⊢
  clear hrb
  have hPe := fun w => place_ok w ep
  have hPi := fun w => place_ok w ix
  obtain ⟨pe, hpe⟩ : ∃ x, x = placeB ep := ⟨_, rfl⟩
  obtain ⟨pi, hpi⟩ : ∃ x, x = placeB ix := ⟨_, rfl⟩
  rw [← hpe] at hPe ⊢
  rw [← hpi] at hPi ⊢
  clear hpe hpi
  obtain ⟨y, hy⟩ : ∃ y, y = whyOf (rb && (pe && (pi && (decide (e.size ≤ 8192) && decide (s.size ≤ 8192))))) := ⟨_, rfl⟩
  rw [← hy]
  have Hy0 := Lib.hid hy
  clear hy
  have p0 := hp.c0
  have p1 := hp.c1
  have p2 := hp.c2
  have p35 := hp.c35
  have p36 := hp.c36
  obtain ⟨w0, hw0⟩ : ∃ w0, w0 = w.alloc (.cells p 27) := ⟨_, rfl⟩
  have hb0 : Below w.heap.size w w0 := by rw [hw0]; exact ((Below.refl _ w).alloc (Nat.le_refl _) _)
  have hx0 : w0.heap[w.heap.size]? = some (.cells p 27 (0, 0)) := by rw [hw0]; exact heap_new _ _
  have HBL0 := Lib.hid hb0
  have HW0 := Lib.hid hw0
  have lx0 := lt_row hx0
  obtain ⟨cx0, fx0⟩ := row_facts hx0
  have HV0 := Lib.hid (hv.below hb0)
  have HR := Lib.hid hR
  have HPe := Lib.hid hPe
  have HPi := Lib.hid hPi
  clear hR hPe hPi hv hb0 hw0 hr hp
  have hcase : rb = false ∨ (rb = true ∧ pe = false) ∨ (rb = true ∧ pe = true ∧ pi = false) ∨ (rb = true ∧ pe = true ∧ pi = true) := by
    cases rb <;> cases pe <;> cases pi <;> simp
  rcases hcase with rfl | ⟨rfl, rfl⟩ | ⟨rfl, rfl, rfl⟩ | ⟨rfl, rfl, rfl⟩
  all_goals
    go_enter Tryz.func59, Tryz.ntmps59
    go_wp2_with fail
    rw [← HW0.out]
    refine (HR.out w0 HV0.out).mono ?_
    rintro e w1 ⟨rfl, hb⟩
    have HBL1 := Lib.hid (HBL0.out.trans (hb.mono HBL0.out.size))
    have hx1 := (hb.block _ lx0).trans hx0
    have lx1 := lt_row hx1
    obtain ⟨cx1, fx1⟩ := row_facts hx1
    have HV1 := Lib.hid (HV0.out.below hb)
    clear hb hx0 cx0 fx0
  · go_wp2
    go_ret
    exact ⟨by rw [Hy0.out]; rfl, HBL1.out⟩
  · go_wp2_with fail
    refine (HPe.out w1).mono ?_
    rintro e' w2 ⟨rfl, rfl⟩
    go_wp2
    go_ret
    exact ⟨by rw [Hy0.out]; rfl, HBL1.out⟩
  · go_wp2_with fail
    refine (HPe.out w1).mono ?_
    rintro e' w2 ⟨rfl, rfl⟩
    go_wp2_with fail
    refine (HPi.out w1).mono ?_
    rintro e' w2 ⟨rfl, rfl⟩
    go_wp2
    go_ret
    exact ⟨by rw [Hy0.out]; rfl, HBL1.out⟩
  · have hy' : (e.size ≤ 8192 ∧ s.size ≤ 8192 ∧ y = 0) ∨ (¬ (e.size ≤ 8192 ∧ s.size ≤ 8192) ∧ y = 2) := by
      rw [Hy0.out]
      unfold whyOf
      simp only [Bool.true_and, Bool.and_eq_true, decide_eq_true_eq]
      by_cases h : e.size ≤ 8192 ∧ s.size ≤ 8192
      · rw [if_pos h]
        exact .inl ⟨h.1, h.2, rfl⟩
      · rw [if_neg h]
        exact .inr ⟨h, rfl⟩
    have Hy := Lib.hid hy'
    clear hy'
    go_wp2_with fail
    refine (HPe.out w1).mono ?_
    rintro e' w2 ⟨rfl, rfl⟩
    go_wp2_with fail
    refine (HPi.out w1).mono ?_
    rintro e' w2 ⟨rfl, rfl⟩
    go_wp2
    all_goals
      go_ret
      refine ⟨?_, HBL1.out⟩
      have hy := Hy.out
      first
        | (obtain rfl : y = 0 := by omega
           rfl)
        | (obtain rfl : y = 2 := by omega
           rfl)

set_option maxRecDepth 100000 in
set_option maxHeartbeats 4000000 in
theorem Text_ok (w : World) (p : Array Value) (r : ByteArray) (ep ix : Int) (pv : List UInt8) (e s : ByteArray) (hp : EntP p r ep ix pv e s) (hv : VarsI w) (hr : r.size ≤ 140737488351232) (he : e.size ≤ maxLen) (hs : s.size ≤ maxLen) :
    Calls Tryz.prog 33 #[.agg p] w (RB (.tuple #[.string (bsOf (EntS.textOf (entOf r ep ix pv e s))), .int .i64 (whyOf (EntS.checkB (entOf r ep ix pv e s)))]) w) := by
  have hC := fun w hv => Check_ok w p r ep ix pv e s hp hv hr he hs
  have p0 := hp.c0
  have p1 := hp.c1
  have p2 := hp.c2
  have p35 := hp.c35
  have hps := hp.size
  have hpi : (Tryz.prog.info? 27).map (·.size) = some 37 := by kernel_rfl
  rw [← hps] at hpi
  have HI := Lib.hid hpi
  clear hpi hps
  obtain ⟨w0, hw0⟩ : ∃ w0, w0 = w.alloc (.cells p 27) := ⟨_, rfl⟩
  have hb0 : Below w.heap.size w w0 := by rw [hw0]; exact ((Below.refl _ w).alloc (Nat.le_refl _) _)
  have hx0 : w0.heap[w.heap.size]? = some (.cells p 27 (0, 0)) := by rw [hw0]; exact heap_new _ _
  have HBL0 := Lib.hid hb0
  have HW0 := Lib.hid hw0
  have lx0 := lt_row hx0
  obtain ⟨cx0, fx0⟩ := row_facts hx0
  have HV0 := Lib.hid (hv.below hb0)
  unfold EntS.textOf
  unfold maxLen at he hs
  have HP := Lib.hid hp
  have Hx0 := Lib.hid hx0
  cases hchk : EntS.checkB (entOf r ep ix pv e s)
  · skip
    rw [hchk] at hC
    have HC := Lib.hid hC
    clear hC hchk hr he hs hp hb0 hv hw0
    go_enter Tryz.func33, Tryz.ntmps33
    go_wp2_with (first | (rw [← HW0.out]; refine wpList_load_row rfl _ _ rfl w.heap.size rfl _ p (0, 0) _ Hx0.out Tryz.underlying27 rfl HI.out ?_) | fail)
    refine (HC.out w0 HV0.out).mono ?_
    rintro e' w1 ⟨rfl, hb⟩
    have HBL1 := Lib.hid (HBL0.out.trans (hb.mono HBL0.out.size))
    have hx1 := (hb.block _ lx0).trans hx0
    have lx1 := lt_row hx1
    obtain ⟨cx1, fx1⟩ := row_facts hx1
    have HV1 := Lib.hid (HV0.out.below hb)
    clear hb hx0 cx0 fx0
    unfold whyOf
    go_wp2
    go_ret2
    exact ⟨rfl, HBL1.out⟩
  · skip
    have hR := EntS.check_iff.1 hchk
    have h0 := hR.ep0
    have h1 := hR.ep1
    have h2 := hR.ix0
    have h3 := hR.ix1
    have hfit := hR.fits hp.len
    simp only [entOf] at h0 h1 h2 h3
    obtain ⟨m, rfl⟩ : ∃ m : Nat, ep = m := ⟨ep.toNat, by omega⟩
    obtain ⟨j, rfl⟩ : ∃ j : Nat, ix = j := ⟨ix.toNat, by omega⟩
    have hparts : EntS.parts (entOf r m j pv e s) = [bsOf EntS.mark, r, bsOf (num m), bsOf (num j), bsOf pv, e].map bl := by
      simp [EntS.parts, entOf, bl_bsOf]
    have hfin : EntS.text (entOf r m j pv e s) = OctetS.list ([bsOf EntS.mark, r, bsOf (num m), bsOf (num j), bsOf pv, e].map bl) := by
      unfold EntS.text
      rw [hparts]
    rw [if_pos rfl, hfin]
    rw [hparts] at hfit
    have hL := fun w v h => List_ok w v [bsOf EntS.mark, r, bsOf (num m), bsOf (num j), bsOf pv, e] h hfit
    rw [hchk] at hC
    obtain ⟨out, hout⟩ : ∃ out, out = bsOf (OctetS.list ([bsOf EntS.mark, r, bsOf (num m), bsOf (num j), bsOf pv, e].map bl)) := ⟨_, rfl⟩
    obtain ⟨n1, hn1⟩ : ∃ nt, nt = bsOf (num m) := ⟨_, rfl⟩
    obtain ⟨n2, hn2⟩ : ∃ nt, nt = bsOf (num j) := ⟨_, rfl⟩
    obtain ⟨q, hq⟩ : ∃ nt, nt = bsOf pv := ⟨_, rfl⟩
    have hN1 := fun w => Num_ok w m (by unfold maxNum; omega)
    have hN2 := fun w => Num_ok w j (by unfold maxNum; omega)
    rw [← hn1] at hN1
    rw [← hn2] at hN2
    rw [← hout]
    rw [← hout, ← hn1, ← hn2, ← hq] at hL
    have HC := Lib.hid hC
    have HN1 := Lib.hid hN1
    have HN2 := Lib.hid hN2
    have HL := Lib.hid hL
    have HQ := Lib.hid hq
    clear hC hN1 hN2 hL hn1 hn2 hout hfin hparts hfit hR hchk hq hr he hs hp hb0 hv hw0
    go_enter Tryz.func33, Tryz.ntmps33
    go_wp2_with (first | (rw [← HW0.out]; refine wpList_load_row rfl _ _ rfl w.heap.size rfl _ p (0, 0) _ Hx0.out Tryz.underlying27 rfl HI.out ?_) | fail)
    refine (HC.out w0 HV0.out).mono ?_
    rintro e' w1 ⟨rfl, hb⟩
    have HBL1 := Lib.hid (HBL0.out.trans (hb.mono HBL0.out.size))
    have hx1 := (hb.block _ lx0).trans hx0
    have lx1 := lt_row hx1
    obtain ⟨cx1, fx1⟩ := row_facts hx1
    have HV1 := Lib.hid (HV0.out.below hb)
    clear hb hx0 cx0 fx0
    unfold whyOf
    go_wp2_with fail
    refine (HN1.out w1).mono ?_
    rintro e w2 ⟨rfl, hb⟩
    have HBL2 := Lib.hid (HBL1.out.trans (hb.mono HBL1.out.size))
    have hx2 := (hb.block _ lx1).trans hx1
    have lx2 := lt_row hx2
    obtain ⟨cx2, fx2⟩ := row_facts hx2
    have HV2 := Lib.hid (HV1.out.below hb)
    clear hb hx1 cx1 fx1
    go_wp2_with fail
    refine (HN2.out w2).mono ?_
    rintro e w3 ⟨rfl, hb⟩
    have HBL3 := Lib.hid (HBL2.out.trans (hb.mono HBL2.out.size))
    have hx3 := (hb.block _ lx2).trans hx2
    have lx3 := lt_row hx3
    obtain ⟨cx3, fx3⟩ := row_facts hx3
    have HV3 := Lib.hid (HV2.out.below hb)
    clear hb hx2 cx2 fx2
    go_wp2_with fail
    refine wp_region_noPanic ?_
    refine Wr.region_K (S := (fun W => W.heap[w.heap.size]? = some (.cells p 27 (0, 0)))) (K := []) (by kernel_rfl) ?_
    change Wr.wpAnyK _ _ _ _ _ _ _ _ _ (World.drew w3)
    have hS0 : (World.drew w3).heap[w.heap.size]? = some (.cells p 27 (0, 0)) := hx3
    have hBL0 : Below w3.heap.size w3 (World.drew w3) := Bl.drew (Below.refl _ _)
    refine Wr.wpAnyK_take (i := 0) (v := ?_) rfl (by kernel_rfl) (fun _ _ _ h => h) (Or.inl ⟨by rfl, ?_⟩) hS0 ?_
    rotate_left
    · intro wq hSw
      have q0 := hSw
      obtain ⟨qc0, qf0⟩ := row_facts q0
      go_simp
      rfl
    simp only [Act.put, List.getElem_toArray, List.getElem_cons_zero, List.getElem_cons_succ, List.setIfInBounds_toArray, List.set_cons_zero, List.set_cons_succ]
    refine Wr.wpAnyK_take (i := 1) (v := ?_) rfl (by kernel_rfl) (fun _ _ _ h => h) (Or.inl ⟨by rfl, ?_⟩) hS0 ?_
    rotate_left
    · intro wq hSw
      have q0 := hSw
      obtain ⟨qc0, qf0⟩ := row_facts q0
      go_simp
      rfl
    simp only [Act.put, List.getElem_toArray, List.getElem_cons_zero, List.getElem_cons_succ, List.setIfInBounds_toArray, List.set_cons_zero, List.set_cons_succ]
    refine Wr.wpAnyK_take (i := 2) (v := ?_) rfl (by kernel_rfl) (fun _ _ _ h => h) (Or.inl ⟨by rfl, ?_⟩) hS0 ?_
    rotate_left
    · intro wq hSw
      have q0 := hSw
      obtain ⟨qc0, qf0⟩ := row_facts q0
      go_simp
      rfl
    simp only [Act.put, List.getElem_toArray, List.getElem_cons_zero, List.getElem_cons_succ, List.setIfInBounds_toArray, List.set_cons_zero, List.set_cons_succ]
    refine Wr.wpAnyK_take (i := 3) (v := ?_) rfl (by kernel_rfl) (fun _ _ _ h => h) (Or.inl ⟨by rfl, ?_⟩) hS0 ?_
    rotate_left
    · intro wq hSw
      have q0 := hSw
      obtain ⟨qc0, qf0⟩ := row_facts q0
      go_simp
      rfl
    simp only [Act.put, List.getElem_toArray, List.getElem_cons_zero, List.getElem_cons_succ, List.setIfInBounds_toArray, List.set_cons_zero, List.set_cons_succ]
    refine Wr.wpAnyK_take (i := 4) (v := ?_) rfl (by kernel_rfl) (fun _ _ _ h => h) (Or.inl ⟨by rfl, ?_⟩) hS0 ?_
    rotate_left
    · intro wq hSw
      have q0 := hSw
      obtain ⟨qc0, qf0⟩ := row_facts q0
      go_simp
      rfl
    simp only [Act.put, List.getElem_toArray, List.getElem_cons_zero, List.getElem_cons_succ, List.setIfInBounds_toArray, List.set_cons_zero, List.set_cons_succ]
    refine Wr.wpAnyK_take (i := 5) (v := ?_) rfl (by kernel_rfl) (fun _ _ _ h => h) (Or.inl ⟨by rfl, ?_⟩) hS0 ?_
    rotate_left
    · intro wq hSw
      have q0 := hSw
      obtain ⟨qc0, qf0⟩ := row_facts q0
      go_simp
      rfl
    simp only [Act.put, List.getElem_toArray, List.getElem_cons_zero, List.getElem_cons_succ, List.setIfInBounds_toArray, List.set_cons_zero, List.set_cons_succ]
    refine Wr.wpAnyK_take (i := 6) (v := (.string q)) rfl (by kernel_rfl) (fun _ _ _ h => h) (Or.inl ⟨by rfl, ?_⟩) hS0 ?_
    · intro wq hSw
      have q0 := hSw
      obtain ⟨qc0, qf0⟩ := row_facts q0
      have hcv := run_text' wq 66 9 5 Tryz.underlying66 Tryz.underlying5 Tryz.underlying9 _ _ (HP.out.sl q0)
      rw [← HQ.out] at hcv
      go_simp
    simp only [Act.put, List.getElem_toArray, List.getElem_cons_zero, List.getElem_cons_succ, List.setIfInBounds_toArray, List.set_cons_zero, List.set_cons_succ]
    refine Wr.wpAnyK_take (i := 7) (v := ?_) rfl (by kernel_rfl) (fun _ _ _ h => h) (Or.inl ⟨by rfl, ?_⟩) hS0 ?_
    rotate_left
    · intro wq hSw
      have q0 := hSw
      obtain ⟨qc0, qf0⟩ := row_facts q0
      go_simp
      rfl
    simp only [Act.put, List.getElem_toArray, List.getElem_cons_zero, List.getElem_cons_succ, List.setIfInBounds_toArray, List.set_cons_zero, List.set_cons_succ]
    refine Wr.wpAnyK_take (i := 8) (v := ?_) rfl (by kernel_rfl) (fun _ _ _ h => h) (Or.inl ⟨by rfl, ?_⟩) hS0 ?_
    rotate_left
    · intro wq hSw
      have q0 := hSw
      obtain ⟨qc0, qf0⟩ := row_facts q0
      go_simp
      rfl
    simp only [Act.put, List.getElem_toArray, List.getElem_cons_zero, List.getElem_cons_succ, List.setIfInBounds_toArray, List.set_cons_zero, List.set_cons_succ]
    refine Wr.wpAnyK_one (i := 9) (by kernel_rfl) ?_
    refine wpOp_run rfl (by rfl) (w' := (World.drew w3).alloc (.cells #[.string ⟨#[101, 110, 116, 114, 121]⟩, .string r, .string n1, .string n2, .string q, .string e] 9)) (v := .slice (some ⟨(World.drew w3).heap.size, 0, none⟩) 6 6) (by go_simp; first | done | rfl) ?_
    obtain ⟨w6, hw_w6⟩ : ∃ w6, w6 = (World.drew w3).alloc (.cells #[.string ⟨#[101, 110, 116, 114, 121]⟩, .string r, .string n1, .string n2, .string q, .string e] 9) := ⟨_, rfl⟩
    rw [← hw_w6]
    have hb_w6 : Below (World.drew w3).heap.size (World.drew w3) w6 := by rw [hw_w6]; exact (Below.refl _ _).alloc (Nat.le_refl _) _
    have hn_w6 : w6.heap[(World.drew w3).heap.size]? = some (.cells #[.string ⟨#[101, 110, 116, 114, 121]⟩, .string r, .string n1, .string n2, .string q, .string e] 9 (0, 0)) := by rw [hw_w6]; exact heap_new' _ rfl
    have hS1 : w6.heap[w.heap.size]? = some (.cells p 27 (0, 0)) := (hb_w6.block _ (lt_row (hS0))).trans (hS0)
    have hBL1 : Below w3.heap.size w3 w6 := hBL0.trans (hb_w6.mono hBL0.size)
    clear hw_w6
    refine ⟨hS1, ?_⟩
    simp only [Act.put, List.getElem_toArray, List.getElem_cons_zero, List.getElem_cons_succ, List.setIfInBounds_toArray, List.set_cons_zero, List.set_cons_succ]
    refine Wr.wpAnyK_one (i := 10) (by kernel_rfl) ?_
    refine wpOp_call rfl (by rfl) (by go_simp; first | done | rfl | exact ⟨⟨rfl, rfl⟩, rfl⟩ | exact ⟨rfl, rfl⟩) ?_
    refine (HL.out w6 _ (EventB.sl_built hn_w6 rfl (by simp [maxLen]))).mono ?_
    rintro e w7 ⟨rfl, hb_w7⟩
    have hS2 : w7.heap[w.heap.size]? = some (.cells p 27 (0, 0)) := (hb_w7.block _ (lt_row (hS1))).trans (hS1)
    have hBL2 : Below w3.heap.size w3 w7 := hBL1.trans (hb_w7.mono hBL1.size)
    refine ⟨_, rfl, ?_, ?_⟩
    · exact hS2
    simp only [Act.put, List.getElem_toArray, List.getElem_cons_zero, List.getElem_cons_succ, List.setIfInBounds_toArray, List.set_cons_zero, List.set_cons_succ]
    refine Wr.wpAnyK_take (i := 11) (v := ?_) rfl (by kernel_rfl) (fun _ _ _ h => h) (Or.inl ⟨by rfl, ?_⟩) hS2 ?_
    rotate_left
    · intro wq hSw
      have q0 := hSw
      obtain ⟨qc0, qf0⟩ := row_facts q0
      go_simp
      rfl
    simp only [Act.put, List.getElem_toArray, List.getElem_cons_zero, List.getElem_cons_succ, List.setIfInBounds_toArray, List.set_cons_zero, List.set_cons_succ]
    refine Wr.wpAnyK_take (i := 12) (v := ?_) rfl (by kernel_rfl) (fun _ _ _ h => h) (Or.inl ⟨by rfl, ?_⟩) hS2 ?_
    rotate_left
    · intro wq hSw
      have q0 := hSw
      obtain ⟨qc0, qf0⟩ := row_facts q0
      go_simp
      rfl
    simp only [Act.put, List.getElem_toArray, List.getElem_cons_zero, List.getElem_cons_succ, List.setIfInBounds_toArray, List.set_cons_zero, List.set_cons_succ]
    refine Wr.wpAnyK_take (i := 13) (v := ?_) rfl (by kernel_rfl) (fun _ _ _ h => h) (Or.inl ⟨by rfl, ?_⟩) hS2 ?_
    rotate_left
    · intro wq hSw
      have q0 := hSw
      obtain ⟨qc0, qf0⟩ := row_facts q0
      go_simp
      rfl
    simp only [Act.put, List.getElem_toArray, List.getElem_cons_zero, List.getElem_cons_succ, List.setIfInBounds_toArray, List.set_cons_zero, List.set_cons_succ]
    refine Wr.wpAnyK_take (i := 14) (v := ?_) rfl (by kernel_rfl) (fun _ _ _ h => h) (Or.inl ⟨by rfl, ?_⟩) hS2 ?_
    rotate_left
    · intro wq hSw
      have q0 := hSw
      obtain ⟨qc0, qf0⟩ := row_facts q0
      go_simp
      rfl
    simp only [Act.put, List.getElem_toArray, List.getElem_cons_zero, List.getElem_cons_succ, List.setIfInBounds_toArray, List.set_cons_zero, List.set_cons_succ]
    refine Wr.wpAnyK_done (by kernel_rfl) (NoPanic.normal ?_) _
    go_wp2
    go_ret2
    exact ⟨rfl, HBL3.out.trans (hBL2.mono HBL3.out.size)⟩

end Go.Proofs.YtdmonfimdinkeaaGreatDoor.EntP
