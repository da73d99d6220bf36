/-
  WHAT IS PROVED: what is signed of a head, its bytes, an entry's head, a head's signature, and how it is verified. Condition: the variables hold what 'VarsI' and 'VarsH' say, and what each theorem names.
-/
import Derived.Test.YtdmonfimdinkeaaGreatDoorEntU
import Derived.Test.YtdmonfimdinkeaaGreatDoorHdS
import Derived.Test.YtdmonfimdinkeaaGreatDoorWireF
namespace Go.Proofs.YtdmonfimdinkeaaGreatDoor.HdT
open Go Go.RowKit Go.Shelf Go.Proofs.YtdmonfimdinkeaaGreatDoor Go.Proofs.YtdmonfimdinkeaaGreatDoor.OctetS Go.Proofs.YtdmonfimdinkeaaGreatDoor.IdentS Go.Proofs.YtdmonfimdinkeaaGreatDoor.EntS Go.Proofs.YtdmonfimdinkeaaGreatDoor.OctP Go.Proofs.YtdmonfimdinkeaaGreatDoor.OctQ Go.Proofs.YtdmonfimdinkeaaGreatDoor.OctG Go.Proofs.YtdmonfimdinkeaaGreatDoor.IdentP Go.Proofs.YtdmonfimdinkeaaGreatDoor.EntP Go.Proofs.YtdmonfimdinkeaaGreatDoor.EventC Go.Proofs.YtdmonfimdinkeaaGreatDoor.ShaA Go.Proofs.YtdmonfimdinkeaaGreatDoor.Steps Go.Proofs.YtdmonfimdinkeaaGreatDoor.KeyA Go.Proofs.YtdmonfimdinkeaaGreatDoor.KeyS Go.Proofs.YtdmonfimdinkeaaGreatDoor.KeyK Go.Proofs.YtdmonfimdinkeaaGreatDoor.TreeA Go.Proofs.YtdmonfimdinkeaaGreatDoor.WireT
set_option linter.unusedVariables false
set_option linter.unusedSimpArgs false

theorem sl_of {p : Array Value} {r : ByteArray} {ep ix : Int} {sm : List UInt8} {s : ByteArray} (h : HdP p r ep ix sm s) {W : World} {B : Nat} {t : TypeId} (hb : W.heap[B]? = some (.cells p t (0, 0))) : Sl W (.slice (some ⟨B, 3, none⟩) 32 32) 1 sm.length (byV sm) := by
  rw [h.len]
  refine ⟨by rw [byV_length, h.len], .inr ⟨_, 32, rfl, Nat.le_refl _, by unfold maxLen; omega, fun j u hu => ?_⟩⟩
  rw [Addr.add_mid, cell_row hb]
  exact h.cp j u hu
theorem P_Check (w : World) (p : Array Value) (r : ByteArray) (ep ix : Int) (pv : List UInt8) (s : ByteArray) (hp : HdP p r ep ix pv s) (hv : VarsI w) (hr : r.size ≤ 140737488351232) (hs : s.size ≤ maxLen) :
    Calls Tryz.prog 18 #[.agg p] w (RB (.int .i64 (whyOf (checkH (hdOf r ep ix pv s)))) w) := WireC.h_Check w p r ep ix pv s hp hv hr hs
theorem R_Check (w : World) (p : Array Value) (r : ByteArray) (ep ix : Int) (pv : List UInt8) (s : ByteArray) (hp : HdP p r ep ix pv s) (hr : r.size ≤ 140737488351232) (hs : s.size ≤ maxLen) :
    Calls Tryz.prog 19 #[.agg p] w (RB (.int .i64 (whyOf (checkH (hdOf r ep ix pv s)))) w) := WireF.r_Check w p r ep ix pv s hp hr hs
theorem hd_len {e : WireS.Hd} (h : HdS.Right e) (hp : e.sum.length = 32) : (HdS.text e).length ≤ 100000 := by
  obtain ⟨h1, h2⟩ := fits_iff.1 (h.fits hp)
  have h3 := EntX.flat_len _ h2
  have h4 : (HdS.parts e).length = 5 := rfl
  have h5 := OctetS.num_length2 (n := 5) (by omega)
  unfold HdS.text OctetS.list
  rw [List.length_append, h4]
  rw [h4] at h3
  omega
theorem hbytes_ok {e : WireS.Hd} : HdS.bytesW e = (if checkH e = true then (if (HdS.text e).length ≤ 8192 then (HdS.bytesE e, 0) else ([], 7)) else ([], 2)) := rfl
set_option maxRecDepth 100000 in
set_option maxHeartbeats 4000000 in
theorem P_Text (w : World) (p : Array Value) (r : ByteArray) (ep ix : Int) (pv : List UInt8) (s : ByteArray) (hp : HdP p r ep ix pv s) (hv : VarsI w) (hr : r.size ≤ 140737488351232) (hs : s.size ≤ maxLen) :
    Calls Tryz.prog 8 #[.agg p] w (RB (.tuple #[.string (bsOf (HdS.textOf (hdOf r ep ix pv s))), .int .i64 (whyOf (checkH (hdOf r ep ix pv s)))]) w) := by
  have hC := fun w hv => P_Check w p r ep ix pv s hp hv hr hs
  have p0 := hp.c0
  have p1 := hp.c1
  have p2 := hp.c2
  have hps := hp.size
  have hpi : (Tryz.prog.info? 25).map (·.size) = some 36 := by kernel_rfl
  rw [← hps] at hpi
  have HI := Lib.hid hpi
  clear hpi hps
  obtain ⟨w0, hw0⟩ : ∃ w0, w0 = w.alloc (.cells p 25) := ⟨_, rfl⟩
  have hb0 : Below w.heap.size w w0 := by rw [hw0]; exact ((Below.refl _ w).alloc (Nat.le_refl _) _)
  have hx0 : w0.heap[w.heap.size]? = some (.cells p 25 (0, 0)) := by rw [hw0]; exact heap_new _ _
  have HBL0 := Lib.hid hb0
  have HW0 := Lib.hid hw0
  have lx0 := lt_row hx0
  obtain ⟨cx0, fx0⟩ := row_facts hx0
  have HV0 := Lib.hid (hv.below hb0)
  unfold HdS.textOf
  unfold maxLen at hs
  have HP := Lib.hid hp
  have Hx0 := Lib.hid hx0
  cases hchk : checkH (hdOf r ep ix pv s)
  · skip
    rw [hchk] at hC
    have HC := Lib.hid hC
    clear hC hchk hr hs hp hb0 hv hw0
    go_enter Tryz.func8, Tryz.ntmps8
    go_wp2_with (first | (rw [← HW0.out]; refine wpList_load_row rfl _ _ rfl w.heap.size rfl _ p (0, 0) _ Hx0.out Tryz.underlying25 rfl HI.out ?_) | fail)
    refine (HC.out w0 HV0.out).mono ?_
    rintro e' w1 ⟨rfl, hb⟩
    have HBL1 := Lib.hid (HBL0.out.trans (hb.mono HBL0.out.size))
    have hx1 := (hb.block _ lx0).trans hx0
    have lx1 := lt_row hx1
    obtain ⟨cx1, fx1⟩ := row_facts hx1
    have HV1 := Lib.hid (HV0.out.below hb)
    clear hb hx0 cx0 fx0
    unfold whyOf
    go_wp2
    go_ret2
    exact ⟨rfl, HBL1.out⟩
  · skip
    have hR := HdS.check_iff.1 hchk
    have h0 := hR.ep0
    have h1 := hR.ep1
    have h2 := hR.ix0
    have h3 := hR.ix1
    have hfit := hR.fits hp.len
    simp only [hdOf] at h0 h1 h2 h3
    obtain ⟨m, rfl⟩ : ∃ m : Nat, ep = m := ⟨ep.toNat, by omega⟩
    obtain ⟨j, rfl⟩ : ∃ j : Nat, ix = j := ⟨ix.toNat, by omega⟩
    have hparts : HdS.parts (hdOf r m j pv s) = [bsOf WireS.markH, r, bsOf (num m), bsOf (num j), bsOf pv].map bl := by
      simp [HdS.parts, hdOf, bl_bsOf]
    have hfin : HdS.text (hdOf r m j pv s) = OctetS.list ([bsOf WireS.markH, r, bsOf (num m), bsOf (num j), bsOf pv].map bl) := by
      unfold HdS.text
      rw [hparts]
    rw [if_pos rfl, hfin]
    rw [hparts] at hfit
    have hL := fun w v h => List_ok w v [bsOf WireS.markH, r, bsOf (num m), bsOf (num j), bsOf pv] h hfit
    rw [hchk] at hC
    obtain ⟨out, hout⟩ : ∃ out, out = bsOf (OctetS.list ([bsOf WireS.markH, r, bsOf (num m), bsOf (num j), bsOf pv].map bl)) := ⟨_, rfl⟩
    obtain ⟨n1, hn1⟩ : ∃ nt, nt = bsOf (num m) := ⟨_, rfl⟩
    obtain ⟨n2, hn2⟩ : ∃ nt, nt = bsOf (num j) := ⟨_, rfl⟩
    obtain ⟨q, hq⟩ : ∃ nt, nt = bsOf pv := ⟨_, rfl⟩
    have hN1 := fun w => Num_ok w m (by unfold maxNum; omega)
    have hN2 := fun w => Num_ok w j (by unfold maxNum; omega)
    rw [← hn1] at hN1
    rw [← hn2] at hN2
    rw [← hout]
    rw [← hout, ← hn1, ← hn2, ← hq] at hL
    have HC := Lib.hid hC
    have HN1 := Lib.hid hN1
    have HN2 := Lib.hid hN2
    have HL := Lib.hid hL
    have HQ := Lib.hid hq
    clear hC hN1 hN2 hL hn1 hn2 hout hfin hparts hfit hR hchk hq hr hs hp hb0 hv hw0
    go_enter Tryz.func8, Tryz.ntmps8
    go_wp2_with (first | (rw [← HW0.out]; refine wpList_load_row rfl _ _ rfl w.heap.size rfl _ p (0, 0) _ Hx0.out Tryz.underlying25 rfl HI.out ?_) | fail)
    refine (HC.out w0 HV0.out).mono ?_
    rintro e' w1 ⟨rfl, hb⟩
    have HBL1 := Lib.hid (HBL0.out.trans (hb.mono HBL0.out.size))
    have hx1 := (hb.block _ lx0).trans hx0
    have lx1 := lt_row hx1
    obtain ⟨cx1, fx1⟩ := row_facts hx1
    have HV1 := Lib.hid (HV0.out.below hb)
    clear hb hx0 cx0 fx0
    unfold whyOf
    go_wp2_with fail
    refine (HN1.out w1).mono ?_
    rintro e w2 ⟨rfl, hb⟩
    have HBL2 := Lib.hid (HBL1.out.trans (hb.mono HBL1.out.size))
    have hx2 := (hb.block _ lx1).trans hx1
    have lx2 := lt_row hx2
    obtain ⟨cx2, fx2⟩ := row_facts hx2
    have HV2 := Lib.hid (HV1.out.below hb)
    clear hb hx1 cx1 fx1
    go_wp2_with fail
    refine (HN2.out w2).mono ?_
    rintro e w3 ⟨rfl, hb⟩
    have HBL3 := Lib.hid (HBL2.out.trans (hb.mono HBL2.out.size))
    have hx3 := (hb.block _ lx2).trans hx2
    have lx3 := lt_row hx3
    obtain ⟨cx3, fx3⟩ := row_facts hx3
    have HV3 := Lib.hid (HV2.out.below hb)
    clear hb hx2 cx2 fx2
    go_wp2_with fail
    refine wp_region_noPanic ?_
    refine Wr.region_K (S := (fun W => W.heap[w.heap.size]? = some (.cells p 25 (0, 0)))) (K := []) (by kernel_rfl) ?_
    change Wr.wpAnyK _ _ _ _ _ _ _ _ _ (World.drew w3)
    have hS0 : (World.drew w3).heap[w.heap.size]? = some (.cells p 25 (0, 0)) := hx3
    have hBL0 : Below w3.heap.size w3 (World.drew w3) := Bl.drew (Below.refl _ _)
    refine Wr.wpAnyK_take (i := 0) (v := ?_) rfl (by kernel_rfl) (fun _ _ _ h => h) (Or.inl ⟨by rfl, ?_⟩) hS0 ?_
    rotate_left
    · intro wq hSw
      have q0 := hSw
      obtain ⟨qc0, qf0⟩ := row_facts q0
      go_simp
      rfl
    simp only [Act.put, sx1, sx2, sx3, sx4, sx5, sx6]
    refine Wr.wpAnyK_take (i := 1) (v := ?_) rfl (by kernel_rfl) (fun _ _ _ h => h) (Or.inl ⟨by rfl, ?_⟩) hS0 ?_
    rotate_left
    · intro wq hSw
      have q0 := hSw
      obtain ⟨qc0, qf0⟩ := row_facts q0
      go_simp
      rfl
    simp only [Act.put, sx1, sx2, sx3, sx4, sx5, sx6]
    refine Wr.wpAnyK_take (i := 2) (v := ?_) rfl (by kernel_rfl) (fun _ _ _ h => h) (Or.inl ⟨by rfl, ?_⟩) hS0 ?_
    rotate_left
    · intro wq hSw
      have q0 := hSw
      obtain ⟨qc0, qf0⟩ := row_facts q0
      go_simp
      rfl
    simp only [Act.put, sx1, sx2, sx3, sx4, sx5, sx6]
    refine Wr.wpAnyK_take (i := 3) (v := ?_) rfl (by kernel_rfl) (fun _ _ _ h => h) (Or.inl ⟨by rfl, ?_⟩) hS0 ?_
    rotate_left
    · intro wq hSw
      have q0 := hSw
      obtain ⟨qc0, qf0⟩ := row_facts q0
      go_simp
      rfl
    simp only [Act.put, sx1, sx2, sx3, sx4, sx5, sx6]
    refine Wr.wpAnyK_take (i := 4) (v := ?_) rfl (by kernel_rfl) (fun _ _ _ h => h) (Or.inl ⟨by rfl, ?_⟩) hS0 ?_
    rotate_left
    · intro wq hSw
      have q0 := hSw
      obtain ⟨qc0, qf0⟩ := row_facts q0
      go_simp
      rfl
    simp only [Act.put, sx1, sx2, sx3, sx4, sx5, sx6]
    refine Wr.wpAnyK_take (i := 5) (v := ?_) rfl (by kernel_rfl) (fun _ _ _ h => h) (Or.inl ⟨by rfl, ?_⟩) hS0 ?_
    rotate_left
    · intro wq hSw
      have q0 := hSw
      obtain ⟨qc0, qf0⟩ := row_facts q0
      go_simp
      rfl
    simp only [Act.put, sx1, sx2, sx3, sx4, sx5, sx6]
    refine Wr.wpAnyK_take (i := 6) (v := (.string q)) rfl (by kernel_rfl) (fun _ _ _ h => h) (Or.inl ⟨by rfl, ?_⟩) hS0 ?_
    · intro wq hSw
      have q0 := hSw
      obtain ⟨qc0, qf0⟩ := row_facts q0
      have hcv := run_text' wq 66 9 5 Tryz.underlying66 Tryz.underlying5 Tryz.underlying9 _ _ (sl_of HP.out q0)
      rw [← HQ.out] at hcv
      go_simp
    simp only [Act.put, sx1, sx2, sx3, sx4, sx5, sx6]
    refine Wr.wpAnyK_one (i := 7) (by kernel_rfl) ?_
    refine wpOp_run rfl (by rfl) (w' := (World.drew w3).alloc (.cells #[.string ⟨#[104, 101, 97, 100]⟩, .string r, .string n1, .string n2, .string q] 9)) (v := .slice (some ⟨(World.drew w3).heap.size, 0, none⟩) 5 5) (by go_simp; first | done | rfl) ?_
    obtain ⟨w6, hw_w6⟩ : ∃ w6, w6 = (World.drew w3).alloc (.cells #[.string ⟨#[104, 101, 97, 100]⟩, .string r, .string n1, .string n2, .string q] 9) := ⟨_, rfl⟩
    rw [← hw_w6]
    have hb_w6 : Below (World.drew w3).heap.size (World.drew w3) w6 := by rw [hw_w6]; exact (Below.refl _ _).alloc (Nat.le_refl _) _
    have hn_w6 : w6.heap[(World.drew w3).heap.size]? = some (.cells #[.string ⟨#[104, 101, 97, 100]⟩, .string r, .string n1, .string n2, .string q] 9 (0, 0)) := by rw [hw_w6]; exact heap_new' _ rfl
    have hS1 : w6.heap[w.heap.size]? = some (.cells p 25 (0, 0)) := (hb_w6.block _ (lt_row (hS0))).trans (hS0)
    have hBL1 : Below w3.heap.size w3 w6 := hBL0.trans (hb_w6.mono hBL0.size)
    clear hw_w6
    refine ⟨hS1, ?_⟩
    simp only [Act.put, sx1, sx2, sx3, sx4, sx5, sx6]
    refine Wr.wpAnyK_one (i := 8) (by kernel_rfl) ?_
    refine wpOp_call rfl (by rfl) (by go_simp; first | done | rfl | exact ⟨⟨rfl, rfl⟩, rfl⟩ | exact ⟨rfl, rfl⟩) ?_
    refine (HL.out w6 _ (EventB.sl_built hn_w6 rfl (by simp [maxLen]))).mono ?_
    rintro e w7 ⟨rfl, hb_w7⟩
    have hS2 : w7.heap[w.heap.size]? = some (.cells p 25 (0, 0)) := (hb_w7.block _ (lt_row (hS1))).trans (hS1)
    have hBL2 : Below w3.heap.size w3 w7 := hBL1.trans (hb_w7.mono hBL1.size)
    refine ⟨_, rfl, ?_, ?_⟩
    · exact hS2
    simp only [Act.put, sx1, sx2, sx3, sx4, sx5, sx6]
    refine Wr.wpAnyK_take (i := 9) (v := ?_) rfl (by kernel_rfl) (fun _ _ _ h => h) (Or.inl ⟨by rfl, ?_⟩) hS2 ?_
    rotate_left
    · intro wq hSw
      have q0 := hSw
      obtain ⟨qc0, qf0⟩ := row_facts q0
      go_simp
      rfl
    simp only [Act.put, sx1, sx2, sx3, sx4, sx5, sx6]
    refine Wr.wpAnyK_take (i := 10) (v := ?_) rfl (by kernel_rfl) (fun _ _ _ h => h) (Or.inl ⟨by rfl, ?_⟩) hS2 ?_
    rotate_left
    · intro wq hSw
      have q0 := hSw
      obtain ⟨qc0, qf0⟩ := row_facts q0
      go_simp
      rfl
    simp only [Act.put, sx1, sx2, sx3, sx4, sx5, sx6]
    refine Wr.wpAnyK_take (i := 11) (v := ?_) rfl (by kernel_rfl) (fun _ _ _ h => h) (Or.inl ⟨by rfl, ?_⟩) hS2 ?_
    rotate_left
    · intro wq hSw
      have q0 := hSw
      obtain ⟨qc0, qf0⟩ := row_facts q0
      go_simp
      rfl
    simp only [Act.put, sx1, sx2, sx3, sx4, sx5, sx6]
    refine Wr.wpAnyK_take (i := 12) (v := ?_) rfl (by kernel_rfl) (fun _ _ _ h => h) (Or.inl ⟨by rfl, ?_⟩) hS2 ?_
    rotate_left
    · intro wq hSw
      have q0 := hSw
      obtain ⟨qc0, qf0⟩ := row_facts q0
      go_simp
      rfl
    simp only [Act.put, sx1, sx2, sx3, sx4, sx5, sx6]
    refine Wr.wpAnyK_done (by kernel_rfl) (NoPanic.normal ?_) _
    go_wp2
    go_ret2
    exact ⟨rfl, HBL3.out.trans (hBL2.mono HBL3.out.size)⟩

set_option maxRecDepth 100000 in
set_option maxHeartbeats 4000000 in
theorem R_Text (w : World) (p : Array Value) (r : ByteArray) (ep ix : Int) (pv : List UInt8) (s : ByteArray) (hp : HdP p r ep ix pv s) (hr : r.size ≤ 140737488351232) (hs : s.size ≤ maxLen) :
    Calls Tryz.prog 9 #[.agg p] w (RB (.tuple #[.string (bsOf (HdS.textOf (hdOf r ep ix pv s))), .int .i64 (whyOf (checkH (hdOf r ep ix pv s)))]) w) := by
  have hC := fun w => R_Check w p r ep ix pv s hp hr hs
  have p0 := hp.c0
  have p1 := hp.c1
  have p2 := hp.c2
  have hps := hp.size
  have hpi : (Tryz.prog.info? 25).map (·.size) = some 36 := by kernel_rfl
  rw [← hps] at hpi
  have HI := Lib.hid hpi
  clear hpi hps
  obtain ⟨w0, hw0⟩ : ∃ w0, w0 = w.alloc (.cells p 25) := ⟨_, rfl⟩
  have hb0 : Below w.heap.size w w0 := by rw [hw0]; exact ((Below.refl _ w).alloc (Nat.le_refl _) _)
  have hx0 : w0.heap[w.heap.size]? = some (.cells p 25 (0, 0)) := by rw [hw0]; exact heap_new _ _
  have HBL0 := Lib.hid hb0
  have HW0 := Lib.hid hw0
  have lx0 := lt_row hx0
  obtain ⟨cx0, fx0⟩ := row_facts hx0
  unfold HdS.textOf
  unfold maxLen at hs
  have HP := Lib.hid hp
  have Hx0 := Lib.hid hx0
  cases hchk : checkH (hdOf r ep ix pv s)
  · skip
    rw [hchk] at hC
    have HC := Lib.hid hC
    clear hC hchk hr hs hp hb0 hw0
    go_enter Tryz.func9, Tryz.ntmps9
    go_wp2_with (first | (rw [← HW0.out]; refine wpList_load_row rfl _ _ rfl w.heap.size rfl _ p (0, 0) _ Hx0.out Tryz.underlying25 rfl HI.out ?_) | fail)
    refine (HC.out w0).mono ?_
    rintro e' w1 ⟨rfl, hb⟩
    have HBL1 := Lib.hid (HBL0.out.trans (hb.mono HBL0.out.size))
    have hx1 := (hb.block _ lx0).trans hx0
    have lx1 := lt_row hx1
    obtain ⟨cx1, fx1⟩ := row_facts hx1
    clear hb hx0 cx0 fx0
    unfold whyOf
    go_wp2
    go_ret2
    exact ⟨rfl, HBL1.out⟩
  · skip
    have hR := HdS.check_iff.1 hchk
    have h0 := hR.ep0
    have h1 := hR.ep1
    have h2 := hR.ix0
    have h3 := hR.ix1
    have hfit := hR.fits hp.len
    simp only [hdOf] at h0 h1 h2 h3
    obtain ⟨m, rfl⟩ : ∃ m : Nat, ep = m := ⟨ep.toNat, by omega⟩
    obtain ⟨j, rfl⟩ : ∃ j : Nat, ix = j := ⟨ix.toNat, by omega⟩
    have hparts : HdS.parts (hdOf r m j pv s) = [bsOf WireS.markH, r, bsOf (num m), bsOf (num j), bsOf pv].map bl := by
      simp [HdS.parts, hdOf, bl_bsOf]
    have hfin : HdS.text (hdOf r m j pv s) = OctetS.list ([bsOf WireS.markH, r, bsOf (num m), bsOf (num j), bsOf pv].map bl) := by
      unfold HdS.text
      rw [hparts]
    rw [if_pos rfl, hfin]
    rw [hparts] at hfit
    have hL := fun w v h => Ref1L.List_ok w v [bsOf WireS.markH, r, bsOf (num m), bsOf (num j), bsOf pv] h hfit
    rw [hchk] at hC
    obtain ⟨out, hout⟩ : ∃ out, out = bsOf (OctetS.list ([bsOf WireS.markH, r, bsOf (num m), bsOf (num j), bsOf pv].map bl)) := ⟨_, rfl⟩
    obtain ⟨n1, hn1⟩ : ∃ nt, nt = bsOf (num m) := ⟨_, rfl⟩
    obtain ⟨n2, hn2⟩ : ∃ nt, nt = bsOf (num j) := ⟨_, rfl⟩
    obtain ⟨q, hq⟩ : ∃ nt, nt = bsOf pv := ⟨_, rfl⟩
    have hN1 := fun w => Ref1N.Num_ok w m (by unfold maxNum; omega)
    have hN2 := fun w => Ref1N.Num_ok w j (by unfold maxNum; omega)
    rw [← hn1] at hN1
    rw [← hn2] at hN2
    rw [← hout]
    rw [← hout, ← hn1, ← hn2, ← hq] at hL
    have HC := Lib.hid hC
    have HN1 := Lib.hid hN1
    have HN2 := Lib.hid hN2
    have HL := Lib.hid hL
    have HQ := Lib.hid hq
    clear hC hN1 hN2 hL hn1 hn2 hout hfin hparts hfit hR hchk hq hr hs hp hb0 hw0
    go_enter Tryz.func9, Tryz.ntmps9
    go_wp2_with (first | (rw [← HW0.out]; refine wpList_load_row rfl _ _ rfl w.heap.size rfl _ p (0, 0) _ Hx0.out Tryz.underlying25 rfl HI.out ?_) | fail)
    refine (HC.out w0).mono ?_
    rintro e' w1 ⟨rfl, hb⟩
    have HBL1 := Lib.hid (HBL0.out.trans (hb.mono HBL0.out.size))
    have hx1 := (hb.block _ lx0).trans hx0
    have lx1 := lt_row hx1
    obtain ⟨cx1, fx1⟩ := row_facts hx1
    clear hb hx0 cx0 fx0
    unfold whyOf
    go_wp2_with fail
    refine (HN1.out w1).mono ?_
    rintro e w2 ⟨rfl, hb⟩
    have HBL2 := Lib.hid (HBL1.out.trans (hb.mono HBL1.out.size))
    have hx2 := (hb.block _ lx1).trans hx1
    have lx2 := lt_row hx2
    obtain ⟨cx2, fx2⟩ := row_facts hx2
    clear hb hx1 cx1 fx1
    go_wp2_with fail
    refine (HN2.out w2).mono ?_
    rintro e w3 ⟨rfl, hb⟩
    have HBL3 := Lib.hid (HBL2.out.trans (hb.mono HBL2.out.size))
    have hx3 := (hb.block _ lx2).trans hx2
    have lx3 := lt_row hx3
    obtain ⟨cx3, fx3⟩ := row_facts hx3
    clear hb hx2 cx2 fx2
    go_wp2_with fail
    refine wp_region_noPanic ?_
    refine Wr.region_K (S := (fun W => W.heap[w.heap.size]? = some (.cells p 25 (0, 0)))) (K := []) (by kernel_rfl) ?_
    change Wr.wpAnyK _ _ _ _ _ _ _ _ _ (World.drew w3)
    have hS0 : (World.drew w3).heap[w.heap.size]? = some (.cells p 25 (0, 0)) := hx3
    have hBL0 : Below w3.heap.size w3 (World.drew w3) := Bl.drew (Below.refl _ _)
    refine Wr.wpAnyK_take (i := 0) (v := ?_) rfl (by kernel_rfl) (fun _ _ _ h => h) (Or.inl ⟨by rfl, ?_⟩) hS0 ?_
    rotate_left
    · intro wq hSw
      have q0 := hSw
      obtain ⟨qc0, qf0⟩ := row_facts q0
      go_simp
      rfl
    simp only [Act.put, sx1, sx2, sx3, sx4, sx5, sx6]
    refine Wr.wpAnyK_take (i := 1) (v := ?_) rfl (by kernel_rfl) (fun _ _ _ h => h) (Or.inl ⟨by rfl, ?_⟩) hS0 ?_
    rotate_left
    · intro wq hSw
      have q0 := hSw
      obtain ⟨qc0, qf0⟩ := row_facts q0
      go_simp
      rfl
    simp only [Act.put, sx1, sx2, sx3, sx4, sx5, sx6]
    refine Wr.wpAnyK_take (i := 2) (v := ?_) rfl (by kernel_rfl) (fun _ _ _ h => h) (Or.inl ⟨by rfl, ?_⟩) hS0 ?_
    rotate_left
    · intro wq hSw
      have q0 := hSw
      obtain ⟨qc0, qf0⟩ := row_facts q0
      go_simp
      rfl
    simp only [Act.put, sx1, sx2, sx3, sx4, sx5, sx6]
    refine Wr.wpAnyK_take (i := 3) (v := ?_) rfl (by kernel_rfl) (fun _ _ _ h => h) (Or.inl ⟨by rfl, ?_⟩) hS0 ?_
    rotate_left
    · intro wq hSw
      have q0 := hSw
      obtain ⟨qc0, qf0⟩ := row_facts q0
      go_simp
      rfl
    simp only [Act.put, sx1, sx2, sx3, sx4, sx5, sx6]
    refine Wr.wpAnyK_take (i := 4) (v := ?_) rfl (by kernel_rfl) (fun _ _ _ h => h) (Or.inl ⟨by rfl, ?_⟩) hS0 ?_
    rotate_left
    · intro wq hSw
      have q0 := hSw
      obtain ⟨qc0, qf0⟩ := row_facts q0
      go_simp
      rfl
    simp only [Act.put, sx1, sx2, sx3, sx4, sx5, sx6]
    refine Wr.wpAnyK_take (i := 5) (v := ?_) rfl (by kernel_rfl) (fun _ _ _ h => h) (Or.inl ⟨by rfl, ?_⟩) hS0 ?_
    rotate_left
    · intro wq hSw
      have q0 := hSw
      obtain ⟨qc0, qf0⟩ := row_facts q0
      go_simp
      rfl
    simp only [Act.put, sx1, sx2, sx3, sx4, sx5, sx6]
    refine Wr.wpAnyK_take (i := 6) (v := (.string q)) rfl (by kernel_rfl) (fun _ _ _ h => h) (Or.inl ⟨by rfl, ?_⟩) hS0 ?_
    · intro wq hSw
      have q0 := hSw
      obtain ⟨qc0, qf0⟩ := row_facts q0
      have hcv := run_text' wq 66 9 5 Tryz.underlying66 Tryz.underlying5 Tryz.underlying9 _ _ (sl_of HP.out q0)
      rw [← HQ.out] at hcv
      go_simp
    simp only [Act.put, sx1, sx2, sx3, sx4, sx5, sx6]
    refine Wr.wpAnyK_one (i := 7) (by kernel_rfl) ?_
    refine wpOp_run rfl (by rfl) (w' := (World.drew w3).alloc (.cells #[.string ⟨#[104, 101, 97, 100]⟩, .string r, .string n1, .string n2, .string q] 9)) (v := .slice (some ⟨(World.drew w3).heap.size, 0, none⟩) 5 5) (by go_simp; first | done | rfl) ?_
    obtain ⟨w6, hw_w6⟩ : ∃ w6, w6 = (World.drew w3).alloc (.cells #[.string ⟨#[104, 101, 97, 100]⟩, .string r, .string n1, .string n2, .string q] 9) := ⟨_, rfl⟩
    rw [← hw_w6]
    have hb_w6 : Below (World.drew w3).heap.size (World.drew w3) w6 := by rw [hw_w6]; exact (Below.refl _ _).alloc (Nat.le_refl _) _
    have hn_w6 : w6.heap[(World.drew w3).heap.size]? = some (.cells #[.string ⟨#[104, 101, 97, 100]⟩, .string r, .string n1, .string n2, .string q] 9 (0, 0)) := by rw [hw_w6]; exact heap_new' _ rfl
    have hS1 : w6.heap[w.heap.size]? = some (.cells p 25 (0, 0)) := (hb_w6.block _ (lt_row (hS0))).trans (hS0)
    have hBL1 : Below w3.heap.size w3 w6 := hBL0.trans (hb_w6.mono hBL0.size)
    clear hw_w6
    refine ⟨hS1, ?_⟩
    simp only [Act.put, sx1, sx2, sx3, sx4, sx5, sx6]
    refine Wr.wpAnyK_one (i := 8) (by kernel_rfl) ?_
    refine wpOp_call rfl (by rfl) (by go_simp; first | done | rfl | exact ⟨⟨rfl, rfl⟩, rfl⟩ | exact ⟨rfl, rfl⟩) ?_
    refine (HL.out w6 _ (EventB.sl_built hn_w6 rfl (by simp [maxLen]))).mono ?_
    rintro e w7 ⟨rfl, hb_w7⟩
    have hS2 : w7.heap[w.heap.size]? = some (.cells p 25 (0, 0)) := (hb_w7.block _ (lt_row (hS1))).trans (hS1)
    have hBL2 : Below w3.heap.size w3 w7 := hBL1.trans (hb_w7.mono hBL1.size)
    refine ⟨_, rfl, ?_, ?_⟩
    · exact hS2
    simp only [Act.put, sx1, sx2, sx3, sx4, sx5, sx6]
    refine Wr.wpAnyK_take (i := 9) (v := ?_) rfl (by kernel_rfl) (fun _ _ _ h => h) (Or.inl ⟨by rfl, ?_⟩) hS2 ?_
    rotate_left
    · intro wq hSw
      have q0 := hSw
      obtain ⟨qc0, qf0⟩ := row_facts q0
      go_simp
      rfl
    simp only [Act.put, sx1, sx2, sx3, sx4, sx5, sx6]
    refine Wr.wpAnyK_take (i := 10) (v := ?_) rfl (by kernel_rfl) (fun _ _ _ h => h) (Or.inl ⟨by rfl, ?_⟩) hS2 ?_
    rotate_left
    · intro wq hSw
      have q0 := hSw
      obtain ⟨qc0, qf0⟩ := row_facts q0
      go_simp
      rfl
    simp only [Act.put, sx1, sx2, sx3, sx4, sx5, sx6]
    refine Wr.wpAnyK_take (i := 11) (v := ?_) rfl (by kernel_rfl) (fun _ _ _ h => h) (Or.inl ⟨by rfl, ?_⟩) hS2 ?_
    rotate_left
    · intro wq hSw
      have q0 := hSw
      obtain ⟨qc0, qf0⟩ := row_facts q0
      go_simp
      rfl
    simp only [Act.put, sx1, sx2, sx3, sx4, sx5, sx6]
    refine Wr.wpAnyK_take (i := 12) (v := ?_) rfl (by kernel_rfl) (fun _ _ _ h => h) (Or.inl ⟨by rfl, ?_⟩) hS2 ?_
    rotate_left
    · intro wq hSw
      have q0 := hSw
      obtain ⟨qc0, qf0⟩ := row_facts q0
      go_simp
      rfl
    simp only [Act.put, sx1, sx2, sx3, sx4, sx5, sx6]
    refine Wr.wpAnyK_done (by kernel_rfl) (NoPanic.normal ?_) _
    go_wp2
    go_ret2
    exact ⟨rfl, HBL3.out.trans (hBL2.mono HBL3.out.size)⟩

set_option maxRecDepth 100000 in
set_option maxHeartbeats 4000000 in
theorem P_Bytes (w : World) (p : Array Value) (r : ByteArray) (ep ix : Int) (pv : List UInt8) (s : ByteArray) (hp : HdP p r ep ix pv s) (hv : VarsI w) (hr : r.size ≤ 140737488351232) (hs : s.size ≤ maxLen) :
    Calls Tryz.prog 10 #[.agg p] w (KeyA.RB (.tuple #[.string (bsOf (HdS.bytesW (hdOf r ep ix pv s)).1), .int .i64 (HdS.bytesW (hdOf r ep ix pv s)).2]) w) := by
  have hT := fun w hv => P_Text w p r ep ix pv s hp hv hr hs
  unfold HdS.textOf at hT
  rw [hbytes_ok]
  have hps := hp.size
  have hpi : (Tryz.prog.info? 25).map (·.size) = some 36 := by kernel_rfl
  rw [← hps] at hpi
  have HI := Lib.hid hpi
  have p35 : p[35]? = some (.string s) := by
    rw [hp.eq]
    unfold hdA
    have hl : (byV pv).length = 32 := by rw [byV_length, hp.len]
    simp [hl]
  obtain ⟨w0, hw0⟩ : ∃ w0, w0 = w.alloc (.cells p 25) := ⟨_, rfl⟩
  have hb0 : Below w.heap.size w w0 := by rw [hw0]; exact (Below.refl _ w).alloc (Nat.le_refl _) _
  have HX0 := Lib.hid (show w0.heap[w.heap.size]? = some (.cells p 25 (0, 0)) by rw [hw0]; exact heap_new _ _)
  have HBL0 := Lib.hid hb0
  have HW0 := Lib.hid hw0
  have HV0 := Lib.hid (hv.below hb0)
  cases hchk : checkH (hdOf r ep ix pv s)
  · skip
    rw [hchk] at hT
    rw [if_neg (by simp)]
    have HT := Lib.hid hT
    clear hT hchk hr hs hp hb0 hv hw0 hpi hps p35
    go_enter Tryz.func10, Tryz.ntmps10
    go_wp2_with (first | (rw [← HW0.out]; refine wpList_load_row rfl _ _ rfl w.heap.size rfl _ p (0, 0) _ HX0.out Tryz.underlying25 rfl HI.out ?_) | fail)
    refine (HT.out w0 HV0.out).mono ?_
    rintro e' w1 ⟨rfl, hb⟩
    have HBL1 := Lib.hid (HBL0.out.trans (hb.mono HBL0.out.size))
    clear hb
    unfold whyOf
    go_wp2
    go_ret2
    exact ⟨rfl, HBL1.out⟩
  · skip
    rw [hchk] at hT
    rw [if_pos rfl] at hT ⊢
    have hR := HdS.check_iff.1 hchk
    have hlen := hd_len hR hp.len
    have hsig := hR.sig
    have hbf : (HdS.text (hdOf r ep ix pv s)).length ≤ 8192 → fits [HdS.text (hdOf r ep ix pv s), bl s] = true := fun h => HdS.bytes_fits hR h
    have hbe : HdS.bytesE (hdOf r ep ix pv s) = OctetS.list [HdS.text (hdOf r ep ix pv s), bl s] := rfl
    rw [hbe]
    obtain ⟨t, ht⟩ : ∃ t, t = HdS.text (hdOf r ep ix pv s) := ⟨_, rfl⟩
    rw [← ht] at hT hlen hbf ⊢
    obtain ⟨Tb, hTb⟩ : ∃ Tb, Tb = bsOf t := ⟨_, rfl⟩
    have hTl : bl Tb = t := by rw [hTb, bl_bsOf]
    have hTs : Tb.size = t.length := by rw [hTb, size_bsOf]
    rw [← hTb] at hT
    have hL : ∀ w v, Rd w v [Tb, s] → Calls Tryz.prog 41 #[v] w (KeyA.RB (.tuple #[.string (bsOf (if t.length ≤ 8192 then (OctetS.list [t, bl s], (0 : Int)) else ([], 7)).1), .int .i64 (if t.length ≤ 8192 then (OctetS.list [t, bl s], (0 : Int)) else ([], 7)).2]) w) := fun w v hrd => by
      by_cases h8 : t.length ≤ 8192
      · rw [if_pos h8]
        have := List_ok w v [Tb, s] hrd (by simp only [List.map_cons, List.map_nil, hTl]; exact hbf h8)
        simp only [List.map_cons, List.map_nil, hTl] at this
        exact this
      · rw [if_neg h8]
        exact EntY.List_long w v Tb [s] hrd (by simp) (by omega) (by omega)
    obtain ⟨O, hO⟩ : ∃ O, O = bsOf (if t.length ≤ 8192 then (OctetS.list [t, bl s], (0 : Int)) else ([], 7)).1 := ⟨_, rfl⟩
    obtain ⟨E, hE⟩ : ∃ E, E = (if t.length ≤ 8192 then (OctetS.list [t, bl s], (0 : Int)) else ([], 7)).2 := ⟨_, rfl⟩
    rw [← hO, ← hE] at hL ⊢
    have HT := Lib.hid hT
    have HL := Lib.hid hL
    clear hL hO hE hT hTb hTl hTs ht hbf hbe hlen hsig hR hchk hr hs hp hb0 hv hw0 hpi hps
    go_enter Tryz.func10, Tryz.ntmps10
    go_wp2_with (first | (rw [← HW0.out]; refine wpList_load_row rfl _ _ rfl w.heap.size rfl _ p (0, 0) _ HX0.out Tryz.underlying25 rfl HI.out ?_) | fail)
    refine (HT.out w0 HV0.out).mono ?_
    rintro e' w1 ⟨rfl, hb⟩
    have HBL1 := Lib.hid (HBL0.out.trans (hb.mono HBL0.out.size))
    have HX1 := Lib.hid ((hb.block _ (lt_row HX0.out)).trans HX0.out)
    clear hb
    have hc35 : w1.cell? ⟨w.heap.size, 35, none⟩ = some (.string s) := by rw [cell_row HX1.out]; exact p35
    unfold whyOf
    go_wp2_with fail
    refine (HL.out _ _ (EventB.sl_built (n := 2) (heap_new _ _) rfl (by simp [maxLen]))).mono ?_
    rintro e' w2 ⟨rfl, hb⟩
    have HBL2 := Lib.hid (HBL1.out.trans ((((Below.refl _ w1).alloc (Nat.le_refl _) _).trans (hb.mono (by simp))).mono HBL1.out.size))
    clear hb
    go_wp2
    go_ret2
    exact ⟨rfl, HBL2.out⟩

def ofA (r : ByteArray) (ep ix : Int) (x : Ent) : Array Value := if EntS.checkB x = true then hdA r ep ix (EntX.sumE x).l ⟨#[]⟩ else hdZ
/-- A head that is built of an entry's fields, and its sum. -/
theorem cells32 (C : Array Value) (h : C.size = 32) : ∃ c0 c1 c2 c3 c4 c5 c6 c7 c8 c9 c10 c11 c12 c13 c14 c15 c16 c17 c18 c19 c20 c21 c22 c23 c24 c25 c26 c27 c28 c29 c30 c31 : Value, C = #[c0, c1, c2, c3, c4, c5, c6, c7, c8, c9, c10, c11, c12, c13, c14, c15, c16, c17, c18, c19, c20, c21, c22, c23, c24, c25, c26, c27, c28, c29, c30, c31] := by
  obtain ⟨l⟩ := C
  have hl : l.length = 32 := h
  match l, hl with
  | [c0, c1, c2, c3, c4, c5, c6, c7, c8, c9, c10, c11, c12, c13, c14, c15, c16, c17, c18, c19, c20, c21, c22, c23, c24, c25, c26, c27, c28, c29, c30, c31], _ => exact ⟨_, _, _, _, _, _, _, _, _, _, _, _, _, _, _, _, _, _, _, _, _, _, _, _, _, _, _, _, _, _, _, _, rfl⟩
set_option maxRecDepth 100000 in
theorem built_hd (r : ByteArray) (ep ix : Int) (X : H32) (C Y : Array Value) (hC : C = X.A) (hY : Y = hdA r ep ix X.l ⟨#[]⟩) : Tryz.prog.built 25 [(0, .string r), (1, .int .i64 ep), (2, .int .i64 ix), (3, .agg C)] = some Y := by
  have hY2 : Y = (([.string r, .int .i64 ep, .int .i64 ix] ++ C.toList ++ [.string ⟨#[]⟩] : List Value)).toArray := by
    rw [hY, hC]
    rfl
  obtain ⟨c0, c1, c2, c3, c4, c5, c6, c7, c8, c9, c10, c11, c12, c13, c14, c15, c16, c17, c18, c19, c20, c21, c22, c23, c24, c25, c26, c27, c28, c29, c30, c31, hc⟩ := cells32 C (by rw [hC]; exact X.size)
  rw [hY2, hc]
  clear hY2 hc hC hY X Y C
  change _ = _
  kernel_rfl

set_option maxRecDepth 100000 in
set_option maxHeartbeats 4000000 in
theorem P_Of (w : World) (p : Array Value) (r : ByteArray) (ep ix : Int) (pv : List UInt8) (e s : ByteArray) (hp : EntP p r ep ix pv e s) (hv : VarsI w) (hk : VarsH w) (hr : r.size ≤ 140737488351232) (he : e.size ≤ maxLen) (hs : s.size ≤ maxLen) :
    Calls Tryz.prog 16 #[.agg p] w (RB (.tuple #[.agg (ofA r ep ix (entOf r ep ix pv e s)), .int .i64 (whyOf (EntS.checkB (entOf r ep ix pv e s)))]) w) := by
  have hS := fun w hv hk => EntX.Sum_ok w p r ep ix pv e s hp hv hk hr he hs
  have hps := hp.size
  have hpi : (Tryz.prog.info? 27).map (·.size) = some 37 := by kernel_rfl
  rw [← hps] at hpi
  have HI := Lib.hid hpi
  have p0 := hp.c0
  have p1 := hp.c1
  have p2 := hp.c2
  unfold ofA
  obtain ⟨x, hx⟩ : ∃ x, x = entOf r ep ix pv e s := ⟨_, rfl⟩
  rw [← hx] at hS ⊢
  obtain ⟨X, hX⟩ : ∃ X, X = EntX.sumE x := ⟨_, rfl⟩
  obtain ⟨C, hC⟩ : ∃ C, C = X.A := ⟨_, rfl⟩
  rw [← hX, ← hC] at hS
  have HCS : Hid ((Tryz.prog.info? 23).map (·.size) = some C.size) := Lib.hid (by rw [hC]; exact X.info)
  have HCN : Hid (32 = C.size) := Lib.hid (by rw [hC]; exact X.size.symm)
  have HCO : Hid (C.all (·.oneCell') = true) := Lib.hid (by rw [hC]; exact X.one)
  obtain ⟨Z, hZ⟩ : ∃ Z, Z = hdZ := ⟨_, rfl⟩
  have HLIT : Hid ((#[.string ⟨#[]⟩, .int .i64 0, .int .i64 0, .int .u8 0, .int .u8 0, .int .u8 0, .int .u8 0, .int .u8 0, .int .u8 0, .int .u8 0, .int .u8 0, .int .u8 0, .int .u8 0, .int .u8 0, .int .u8 0, .int .u8 0, .int .u8 0, .int .u8 0, .int .u8 0, .int .u8 0, .int .u8 0, .int .u8 0, .int .u8 0, .int .u8 0, .int .u8 0, .int .u8 0, .int .u8 0, .int .u8 0, .int .u8 0, .int .u8 0, .int .u8 0, .int .u8 0, .int .u8 0, .int .u8 0, .int .u8 0, .string ⟨#[]⟩] : Array Value) = Z) := Lib.hid (by rw [hZ]; kernel_rfl)
  have HZN : Hid (Z.size = 36) := Lib.hid (by rw [hZ]; rfl)
  have HZS : Hid ((Tryz.prog.info? 25).map (·.size) = some Z.size) := Lib.hid (by rw [HZN.out]; kernel_rfl)
  have HZO : Hid (Z.all (·.oneCell') = true) := Lib.hid (by rw [hZ]; exact hdA_one _ _ _ _ _)
  obtain ⟨Y, hY⟩ : ∃ Y, Y = hdA r ep ix X.l ⟨#[]⟩ := ⟨_, rfl⟩
  have hYn : Y.size = 36 := by rw [hY]; exact hdA_size X.len
  have HYS : Hid ((Tryz.prog.info? 25).map (·.size) = some Y.size) := Lib.hid (by rw [hYn]; kernel_rfl)
  have HYN : Hid (Z.size = Y.size) := Lib.hid (by rw [hYn]; exact HZN.out)
  have HYO : Hid (Y.all (·.oneCell') = true) := Lib.hid (by rw [hY]; exact hdA_one _ _ _ _ _)
  have HYB : Hid (Tryz.prog.built 25 [(0, .string r), (1, .int .i64 ep), (2, .int .i64 ix), (3, .agg C)] = some Y) := Lib.hid (built_hd r ep ix X C Y hC hY)
  obtain ⟨w0, hw0⟩ : ∃ w0, w0 = (w.alloc (.cells p 27)).alloc (.cells Z 25) := ⟨_, rfl⟩
  have hb0 : Below w.heap.size w w0 := by rw [hw0]; exact ((Below.refl _ w).alloc (Nat.le_refl _) _).alloc (by simp) _
  have HX0 := Lib.hid (show w0.heap[w.heap.size]? = some (.cells p 27 (0, 0)) by rw [hw0]; exact heap_at (heap_new _ _) _)
  have HZ0 := Lib.hid (show w0.heap[w.heap.size + 1]? = some (.cells Z 25 (0, 0)) by rw [hw0]; exact heap_new' _ (by simp))
  have HBL0 := Lib.hid hb0
  have HW0 := Lib.hid hw0
  have HV0 := Lib.hid (hv.below hb0)
  have HK0 := Lib.hid (hk.below hb0)
  have HS := Lib.hid hS
  have hres : (if EntS.checkB x = true then hdA r ep ix (EntX.sumE x).l ⟨#[]⟩ else hdZ) = (if EntS.checkB x = true then Y else Z) := by rw [hY, hX, hZ]
  rw [hres]
  obtain ⟨c, hc⟩ : ∃ c, c = EntS.checkB x := ⟨_, rfl⟩
  rw [← hc] at HS ⊢
  have P0 := Lib.hid p0
  have P1 := Lib.hid p1
  have P2 := Lib.hid p2
  clear hS hps hpi p0 p1 p2 hX hC hZ hY hYn hw0 hb0 hv hk hr he hs hp hres hc hx
  cases c
  · rw [if_neg (by simp)]
    have HS := Lib.hid (show ∀ w, VarsI w → VarsH w → Calls Tryz.prog 36 #[.agg p] w (RB (.tuple #[.agg C, .int .i64 2]) w) from HS.out)
    change Calls _ _ _ _ (RB (.tuple #[.agg Z, .int .i64 2]) w)
    go_enter Tryz.func16, Tryz.ntmps16
    go_wp2_with (first | (rw [HLIT.out, ← HW0.out]; refine wpList_load_row rfl _ _ rfl w.heap.size rfl _ p (0, 0) _ HX0.out Tryz.underlying27 rfl HI.out ?_) | fail)
    refine (HS.out w0 HV0.out HK0.out).mono ?_
    rintro e' w1 ⟨rfl, hb⟩
    have HBL1 := Lib.hid (HBL0.out.trans (hb.mono HBL0.out.size))
    have HX1 := Lib.hid ((hb.block _ (lt_row HX0.out)).trans HX0.out)
    have HZ1 := Lib.hid ((hb.block _ (lt_row HZ0.out)).trans HZ0.out)
    have hlz := lt_row HZ1.out
    clear hb
    go_wp2_with (first | (refine wpList_store_rowA rfl _ _ _ rfl w1.heap.size C rfl rfl _ _ (heap_new _ _) HCS.out (by rw [← HCN.out]; rfl) HCO.out ?_) | fail)
    intro u1 hu1
    have hb : Below w1.heap.size w1 u1 := by rw [hu1.out]; exact below_row ((Below.refl _ _).alloc (Nat.le_refl _) _) (Nat.le_refl _) _
    have hy : u1.heap[w1.heap.size]? = some (.cells C 23 (0, 0)) := by rw [hu1.out]; exact setRow_at (heap_new _ _)
    clear hu1
    obtain ⟨w2, hww⟩ : ∃ w', w' = u1 := ⟨_, rfl⟩
    rw [← hww] at hb hy ⊢
    clear hww
    have HBL2 := Lib.hid (HBL1.out.trans (hb.mono HBL1.out.size))
    have hx2 := (hb.block _ (lt_row HX1.out)).trans HX1.out
    have HZ2 := Lib.hid ((hb.block _ (lt_row HZ1.out)).trans HZ1.out)
    have HC2 := Lib.hid hy
    have k0 : w2.cell? ⟨w.heap.size, 0, none⟩ = some (.string r) := by rw [cell_row hx2]; exact P0.out
    have k1 : w2.cell? ⟨w.heap.size, 1, none⟩ = some (.int .i64 ep) := by rw [cell_row hx2]; exact P1.out
    have k2 : w2.cell? ⟨w.heap.size, 2, none⟩ = some (.int .i64 ix) := by rw [cell_row hx2]; exact P2.out
    clear hb hy hx2
    go_wp2_with (first | (refine wpList_store_rowA rfl _ _ _ rfl (w.heap.size + 1) Z rfl (by rw [← HLIT.out]; rfl) _ _ HZ2.out HZS.out rfl HZO.out ?_) | fail)
    intro wf hwf
    go_wp2
    refine bodyPost_ret (v := .tuple #[.agg Z, .int .i64 2]) (WireT.results_cell_slot rfl _ _ (w.heap.size + 1) 25 Z (0, 0) _ rfl (by rw [hwf.out]; exact setRow_at HZ2.out) Tryz.underlying25 rfl HZS.out rfl) rfl ⟨rfl, by rw [hwf.out]; exact below_row HBL2.out (by omega) _⟩
  · rw [if_pos rfl]
    have HS := Lib.hid (show ∀ w, VarsI w → VarsH w → Calls Tryz.prog 36 #[.agg p] w (RB (.tuple #[.agg C, .int .i64 0]) w) from HS.out)
    change Calls _ _ _ _ (RB (.tuple #[.agg Y, .int .i64 0]) w)
    go_enter Tryz.func16, Tryz.ntmps16
    go_wp2_with (first | (rw [HLIT.out, ← HW0.out]; refine wpList_load_row rfl _ _ rfl w.heap.size rfl _ p (0, 0) _ HX0.out Tryz.underlying27 rfl HI.out ?_) | fail)
    refine (HS.out w0 HV0.out HK0.out).mono ?_
    rintro e' w1 ⟨rfl, hb⟩
    have HBL1 := Lib.hid (HBL0.out.trans (hb.mono HBL0.out.size))
    have HX1 := Lib.hid ((hb.block _ (lt_row HX0.out)).trans HX0.out)
    have HZ1 := Lib.hid ((hb.block _ (lt_row HZ0.out)).trans HZ0.out)
    have hlz := lt_row HZ1.out
    clear hb
    go_wp2_with (first | (refine wpList_store_rowA rfl _ _ _ rfl w1.heap.size C rfl rfl _ _ (heap_new _ _) HCS.out (by rw [← HCN.out]; rfl) HCO.out ?_) | fail)
    intro u1 hu1
    have hb : Below w1.heap.size w1 u1 := by rw [hu1.out]; exact below_row ((Below.refl _ _).alloc (Nat.le_refl _) _) (Nat.le_refl _) _
    have hy : u1.heap[w1.heap.size]? = some (.cells C 23 (0, 0)) := by rw [hu1.out]; exact setRow_at (heap_new _ _)
    clear hu1
    obtain ⟨w2, hww⟩ : ∃ w', w' = u1 := ⟨_, rfl⟩
    rw [← hww] at hb hy ⊢
    clear hww
    have HBL2 := Lib.hid (HBL1.out.trans (hb.mono HBL1.out.size))
    have hx2 := (hb.block _ (lt_row HX1.out)).trans HX1.out
    have HZ2 := Lib.hid ((hb.block _ (lt_row HZ1.out)).trans HZ1.out)
    have HC2 := Lib.hid hy
    have k0 : w2.cell? ⟨w.heap.size, 0, none⟩ = some (.string r) := by rw [cell_row hx2]; exact P0.out
    have k1 : w2.cell? ⟨w.heap.size, 1, none⟩ = some (.int .i64 ep) := by rw [cell_row hx2]; exact P1.out
    have k2 : w2.cell? ⟨w.heap.size, 2, none⟩ = some (.int .i64 ix) := by rw [cell_row hx2]; exact P2.out
    clear hb hy hx2
    go_wp2_with (first | (refine wpList_load_row rfl _ _ rfl w1.heap.size rfl _ C (0, 0) _ HC2.out Tryz.underlying23 rfl HCS.out ?_) | (refine EntQ.wpList_buildC rfl 25 _ rfl Y (by first | exact HYB.out | (go_simp; exact HYB.out)) ?_) | (refine wpList_store_rowA rfl _ _ _ rfl (w.heap.size + 1) Y rfl rfl _ _ HZ2.out HYS.out HYN.out HYO.out ?_) | fail)
    intro wf hwf
    go_wp2
    refine bodyPost_ret (v := .tuple #[.agg Y, .int .i64 0]) (WireT.results_cell_slot rfl _ _ (w.heap.size + 1) 25 Y (0, 0) _ rfl (by rw [hwf.out]; exact setRow_at HZ2.out) Tryz.underlying25 rfl HYS.out rfl) rfl ⟨rfl, by rw [hwf.out]; exact below_row HBL2.out (by omega) _⟩

set_option maxRecDepth 100000 in
set_option maxHeartbeats 4000000 in
theorem P_Sign (w : World) (R : Nat) (sd : ByteArray) (h nx : Nat) (v : Value) (x : H32) (hsd : sd.size ≤ 64) (hh : h ≤ 7) (hn : nx < 2 ^ h) (hr0 : w.heap[R]? = some (.cells (ringA sd h nx v x) 88 (0, 0)))
    (hv0 : Sl w v 32 (2 ^ h) ((leavesH (bl sd) (2 ^ h)).flatMap H32.cs)) (hvb : ∀ k, v.ownBlock = some k → k < w.heap.size) (hk : VarsH w)
    (p : Array Value) (r : ByteArray) (ep ix : Int) (pv : List UInt8) (s : ByteArray) (hp : HdP p r ep ix pv s) (hv : VarsI w) (hr : r.size ≤ 140737488351232) (hs : s.size ≤ maxLen) (hchk : checkH (hdOf r ep ix pv s) = true) :
    Calls Tryz.prog 37 #[.pointer (some ⟨R, 0, none⟩), .agg p] w fun e' w' => e' = .returned (.tuple #[.agg (hdA r ep ix pv (bsOf (sigOf (bl sd) h nx (HdS.text (hdOf r ep ix pv s))))), .int .i64 0]) ∧
      w'.heap[R]? = some (.cells (ringA sd h (nx + 1 : Nat) v x) 88 (0, 0)) ∧ Ext (fun k => k = R) w w' := by
  have hT := fun w hv => P_Text w p r ep ix pv s hp hv hr hs
  unfold HdS.textOf at hT
  rw [hchk] at hT
  rw [if_pos rfl] at hT
  have hR := HdS.check_iff.1 hchk
  have hlen := hd_len hR hp.len
  have hps := hp.size
  have H35 := Lib.hid hp.c35
  have hpi : (Tryz.prog.info? 25).map (·.size) = some 36 := by kernel_rfl
  obtain ⟨Tb, hT2⟩ : ∃ T, T = bsOf (HdS.text (hdOf r ep ix pv s)) := ⟨_, rfl⟩
  have hTs : Tb.size ≤ 140737488355328 := by rw [hT2, size_bsOf]; omega
  have hTb : bl Tb = HdS.text (hdOf r ep ix pv s) := by rw [hT2, bl_bsOf]
  rw [← hT2] at hT
  rw [← hTb]
  have hS := fun w' (hb : Below w.heap.size w w') => KeyM.Sign_ok w' R sd Tb h nx v x hsd hTs hh hn ((hb.block _ (lt_row hr0)).trans hr0) (hv0.below hb) (hk.below hb)
  obtain ⟨G, hG⟩ : ∃ G, G = bsOf (sigOf (bl sd) h nx (bl Tb)) := ⟨_, rfl⟩
  rw [← hG] at hS ⊢
  obtain ⟨E, hE⟩ : ∃ E, E = hdA r ep ix pv G := ⟨_, rfl⟩
  have hEp : HdP E r ep ix pv G := ⟨hE, hp.len⟩
  have hset : p.setIfInBounds 35 (.string G) = E := by rw [hp.eq, hE, hd_sig _ _ _ hp.len]
  have HES : Hid ((Tryz.prog.info? 25).map (·.size) = some E.size) := Lib.hid (by rw [hEp.size]; exact hpi)
  have HEN : Hid (36 = E.size) := Lib.hid hEp.size.symm
  have HEO : Hid (E.all (·.oneCell') = true) := Lib.hid (by rw [hE]; exact hdA_one _ _ _ _ _)
  rw [← hE]
  obtain ⟨Z, hZ⟩ : ∃ Z : Array Value, Z = #[.string ⟨#[]⟩, .int .i64 0, .int .i64 0, .int .u8 0, .int .u8 0, .int .u8 0, .int .u8 0, .int .u8 0, .int .u8 0, .int .u8 0, .int .u8 0, .int .u8 0, .int .u8 0, .int .u8 0, .int .u8 0, .int .u8 0, .int .u8 0, .int .u8 0, .int .u8 0, .int .u8 0, .int .u8 0, .int .u8 0, .int .u8 0, .int .u8 0, .int .u8 0, .int .u8 0, .int .u8 0, .int .u8 0, .int .u8 0, .int .u8 0, .int .u8 0, .int .u8 0, .int .u8 0, .int .u8 0, .int .u8 0, .string ⟨#[]⟩] := ⟨_, rfl⟩
  have HLIT : Hid ((#[.string ⟨#[]⟩, .int .i64 0, .int .i64 0, .int .u8 0, .int .u8 0, .int .u8 0, .int .u8 0, .int .u8 0, .int .u8 0, .int .u8 0, .int .u8 0, .int .u8 0, .int .u8 0, .int .u8 0, .int .u8 0, .int .u8 0, .int .u8 0, .int .u8 0, .int .u8 0, .int .u8 0, .int .u8 0, .int .u8 0, .int .u8 0, .int .u8 0, .int .u8 0, .int .u8 0, .int .u8 0, .int .u8 0, .int .u8 0, .int .u8 0, .int .u8 0, .int .u8 0, .int .u8 0, .int .u8 0, .int .u8 0, .string ⟨#[]⟩] : Array Value) = Z) := Lib.hid hZ.symm
  have HZN : Hid (Z.size = 36) := Lib.hid (by rw [hZ]; rfl)
  have hlR := lt_row hr0
  obtain ⟨w0, hw0⟩ : ∃ w0, w0 = (w.alloc (.cells p 25)).alloc (.cells Z 25) := ⟨_, rfl⟩
  have hb0 : Below w.heap.size w w0 := by rw [hw0]; exact ((Below.refl _ w).alloc (Nat.le_refl _) _).alloc (by simp) _
  have HX0 := Lib.hid (show w0.heap[w.heap.size]? = some (.cells p 25 (0, 0)) by rw [hw0]; exact heap_at (heap_new _ _) _)
  have HZ0 := Lib.hid (show w0.heap[w.heap.size + 1]? = some (.cells Z 25 (0, 0)) by rw [hw0]; exact heap_new' _ (by simp))
  have HBL0 := Lib.hid hb0
  have HW0 := Lib.hid hw0
  have HV0 := Lib.hid (hv.below hb0)
  have HT := Lib.hid hT
  have HS := Lib.hid hS
  have HI := Lib.hid (show (Tryz.prog.info? 25).map (·.size) = some p.size by rw [hps]; exact hpi)
  have Hset := Lib.hid hset
  clear hT hS hT2 hchk hR hr hs hp hb0 hv hw0 hpi hps hG hE hEp hset hTb hTs hlen hv0 hr0 hk hvb hZ
  go_enter Tryz.func37, Tryz.ntmps37
  go_wp2_with (first | (rw [HLIT.out, ← HW0.out]; refine wpList_load_row rfl _ _ rfl w.heap.size rfl _ p (0, 0) _ HX0.out Tryz.underlying25 rfl HI.out ?_) | fail)
  refine (HT.out w0 HV0.out).mono ?_
  rintro e' w1 ⟨rfl, hb⟩
  have HBL1 := Lib.hid (HBL0.out.trans (hb.mono HBL0.out.size))
  have HX1 := Lib.hid ((hb.block _ (lt_row HX0.out)).trans HX0.out)
  have HZ1 := Lib.hid ((hb.block _ (lt_row HZ0.out)).trans HZ0.out)
  clear hb
  unfold whyOf
  go_wp2_with fail
  refine (HS.out w1 HBL1.out).mono ?_
  rintro e' w2 ⟨rfl, hr2, hE2⟩
  have hx2 := hE2.blockOf HX1.out (fun h => by omega)
  have HX2 := Lib.hid hx2
  have HZ2 := Lib.hid (hE2.blockOf HZ1.out (fun h => by omega))
  have HR2 := Lib.hid hr2
  have HE2 := Lib.hid ((Ext.of_below (S := fun k => k = R) HBL1.out).trans hE2)
  have c35 : w2.cell? ⟨w.heap.size, 35, none⟩ = some (.string s) := by rw [cell_row hx2]; exact H35.out
  have f35 : w2.frozen? ⟨w.heap.size, 35, none⟩ = false := frozen_row hx2
  have HX3 : Hid ((w2.setCell ⟨w.heap.size, 35, none⟩ (.string G)).heap[w.heap.size]? = some (.cells E 25 (0, 0))) := Lib.hid (by rw [← Hset.out]; exact heap_setCell_same hx2 _)
  have HZ3 : Hid ((w2.setCell ⟨w.heap.size, 35, none⟩ (.string G)).heap[w.heap.size + 1]? = some (.cells Z 25 (0, 0))) := Lib.hid ((heap_setCell_far _ (by omega)).trans HZ2.out)
  have HR3 : Hid ((w2.setCell ⟨w.heap.size, 35, none⟩ (.string G)).heap[R]? = some (.cells (ringA sd h (nx + 1 : Nat) v x) 88 (0, 0))) := Lib.hid ((heap_setCell_far _ (by omega)).trans HR2.out)
  have HE3 : Hid (Ext (fun k => k = R) w (w2.setCell ⟨w.heap.size, 35, none⟩ (.string G))) := Lib.hid (HE2.out.setCell (p := ⟨w.heap.size, 35, none⟩) (.inr (Nat.le_refl _)) _)
  clear hr2 hE2 hx2
  go_wp2_with (first | (refine wpList_load_row rfl _ _ rfl w.heap.size rfl _ E (0, 0) _ HX3.out Tryz.underlying25 rfl HES.out ?_) | (refine wpList_store_rowA rfl _ _ _ rfl (w.heap.size + 1) E rfl rfl _ _ HZ3.out HES.out (by rw [HZN.out]; exact HEN.out) HEO.out ?_) | fail)
  intro wf hwf
  go_wp2
  refine bodyPost_ret (v := .tuple #[.agg E, .int .i64 0]) (WireT.results_cell_slot rfl _ _ (w.heap.size + 1) 25 E (0, 0) _ rfl (by rw [hwf.out]; exact setRow_at HZ3.out) Tryz.underlying25 rfl HES.out rfl) rfl ⟨rfl, ?_, ?_⟩
  · rw [hwf.out, setRow_far _ (by omega)]
    exact HR3.out
  · rw [hwf.out]
    exact HE3.out.grown (row := some (w.heap.size + 1)) (EntW.grownBy_setRow _ _ _) (fun k hk => by cases hk; exact .inr (by omega))

set_option maxRecDepth 100000 in
set_option maxHeartbeats 1000000 in
theorem P_Verify (w : World) (p : Array Value) (r : ByteArray) (ep ix : Int) (pv : List UInt8) (s : ByteArray) (hp : HdP p r ep ix pv s) (hv : VarsI w) (hr : r.size ≤ 140737488351232) (hs : s.size ≤ maxLen) (hchk : checkH (hdOf r ep ix pv s) = true)
    (v : Value) (sv res : Int) (hB : ∀ w', Below w.heap.size w w' → Calls Tryz.prog 67 #[v, .int .i64 sv, .int .i64 ix, .string (bsOf (HdS.text (hdOf r ep ix pv s))), .string s] w' (KeyA.RB (.int .i64 res) w')) :
    Calls Tryz.prog 39 #[v, .int .i64 sv, .agg p] w (KeyA.RB (.int .i64 res) w) := by
  have hT := fun w hv => P_Text w p r ep ix pv s hp hv hr hs
  unfold HdS.textOf at hT
  rw [hchk] at hT
  rw [if_pos rfl] at hT
  have hR := HdS.check_iff.1 hchk
  have hi0 : 0 ≤ ix := hR.ix0
  have hi1 : ix ≤ 4096 := hR.ix1
  have hps := hp.size
  have hpi : (Tryz.prog.info? 25).map (·.size) = some 36 := by kernel_rfl
  rw [← hps] at hpi
  have HI := Lib.hid hpi
  have p2 := hp.c2
  have p35 : p[35]? = some (.string s) := by
    rw [hp.eq]
    unfold hdA
    have hl : (byV pv).length = 32 := by rw [byV_length, hp.len]
    simp [hl]
  have hwr : IntKind.i64.wrap ix = ix := by rw [IntKind.wrap_i64]; omega
  obtain ⟨T, hT2⟩ : ∃ T, T = bsOf (HdS.text (hdOf r ep ix pv s)) := ⟨_, rfl⟩
  rw [← hT2] at hT hB
  obtain ⟨w0, hw0⟩ : ∃ w0, w0 = w.alloc (.cells p 25) := ⟨_, rfl⟩
  have hb0 : Below w.heap.size w w0 := by rw [hw0]; exact (Below.refl _ w).alloc (Nat.le_refl _) _
  have HX0 := Lib.hid (show w0.heap[w.heap.size]? = some (.cells p 25 (0, 0)) by rw [hw0]; exact heap_new _ _)
  have HBL0 := Lib.hid hb0
  have HW0 := Lib.hid hw0
  have HV0 := Lib.hid (hv.below hb0)
  have HT := Lib.hid hT
  have HB := Lib.hid hB
  clear hT hB hT2 hchk hR hr hs hp hb0 hv hw0 hpi hps
  go_enter Tryz.func39, Tryz.ntmps39
  go_wp2_with (first | (rw [← HW0.out]; refine wpList_load_row rfl _ _ rfl w.heap.size rfl _ p (0, 0) _ HX0.out Tryz.underlying25 rfl HI.out ?_) | fail)
  refine (HT.out w0 HV0.out).mono ?_
  rintro e' w1 ⟨rfl, hb⟩
  have HBL1 := Lib.hid (HBL0.out.trans (hb.mono HBL0.out.size))
  have HX1 := Lib.hid ((hb.block _ (lt_row HX0.out)).trans HX0.out)
  clear hb
  have hc2 : w1.cell? ⟨w.heap.size, 2, none⟩ = some (.int .i64 ix) := by rw [cell_row HX1.out]; exact p2
  have hc35 : w1.cell? ⟨w.heap.size, 35, none⟩ = some (.string s) := by rw [cell_row HX1.out]; exact p35
  unfold whyOf
  go_wp2_with fail
  refine (HB.out w1 HBL1.out).mono ?_
  rintro e' w2 ⟨rfl, hb⟩
  have HBL2 := Lib.hid (HBL1.out.trans (hb.mono HBL1.out.size))
  clear hb
  go_wp2
  go_ret
  exact ⟨rfl, HBL2.out⟩

end Go.Proofs.YtdmonfimdinkeaaGreatDoor.HdT
