/-
  WHAT IS PROVED: the reference's messages. Condition: what each theorem names.
-/
import Derived.Test.YtlincoeldehkfaaGreatDoorWireL
namespace Go.Proofs.YtlincoeldehkfaaGreatDoor.WireM
open Go Go.RowKit Go.Shelf Go.Proofs.YtlincoeldehkfaaGreatDoor Go.Proofs.YtlincoeldehkfaaGreatDoor.OctetS Go.Proofs.YtlincoeldehkfaaGreatDoor.IdentS Go.Proofs.YtlincoeldehkfaaGreatDoor.EntS Go.Proofs.YtlincoeldehkfaaGreatDoor.WireS Go.Proofs.YtlincoeldehkfaaGreatDoor.OctG Go.Proofs.YtlincoeldehkfaaGreatDoor.OctP Go.Proofs.YtlincoeldehkfaaGreatDoor.OctQ Go.Proofs.YtlincoeldehkfaaGreatDoor.OctA Go.Proofs.YtlincoeldehkfaaGreatDoor.EventP Go.Proofs.YtlincoeldehkfaaGreatDoor.EventC Go.Proofs.YtlincoeldehkfaaGreatDoor.EntP Go.Proofs.YtlincoeldehkfaaGreatDoor.WireT Go.Proofs.YtlincoeldehkfaaGreatDoor.Steps Go.Proofs.YtlincoeldehkfaaGreatDoor.Wr Go.Proofs.YtlincoeldehkfaaGreatDoor.WireL
open Go.Proofs.YtlincoeldehkfaaGreatDoor.WireE (gnI gnI_eq gnI_small)
open Go.Proofs.YtlincoeldehkfaaGreatDoor.WireH (rejectV)
open Go.Proofs.YtlincoeldehkfaaGreatDoor.WireA (askV askedV)
open Go.Proofs.YtlincoeldehkfaaGreatDoor.WireI (fitV fitV_true fitV_false why_ways)
set_option linter.unusedVariables false
set_option linter.unusedSimpArgs false

theorem server_yes {n : Int} (h : serverB n = true) : 0 ≤ n ∧ n ≤ 63 := by simpa [serverB] using h
theorem server_no {n : Int} (h : serverB n = false) : n < 0 ∨ 63 < n := by
  by_cases h0 : n < 0
  · exact .inl h0
  · by_cases h1 : 63 < n
    · exact .inr h1
    · have : serverB n = true := by simp [serverB]; omega
      rw [this] at h
      cases h
theorem wordN_kind (k : Int) (hk : 0 ≤ k) : ((k ≤ 0 ∨ 8 ≤ k) ∧ bsOf (WireS.wordN k.toNat) = ⟨#[]⟩) ∨ ((0 < k ∧ k < 8) ∧ (bsOf (WireS.wordN k.toNat)).toList.isEmpty = false ∧ ((bsOf (WireS.wordN k.toNat)).toList == []) = false) := by
  by_cases h8 : 8 ≤ k
  · exact .inl ⟨.inr h8, wordN_far h8⟩
  · by_cases h0 : k = 0
    · subst h0; exact .inl ⟨.inl (by omega), rfl⟩
    · refine .inr ⟨⟨by omega, by omega⟩, ?_⟩
      have : k = 1 ∨ k = 2 ∨ k = 3 ∨ k = 4 ∨ k = 5 ∨ k = 6 ∨ k = 7 := by omega
      rw [bl_toList, bl_bsOf]
      rcases this with rfl | rfl | rfl | rfl | rfl | rfl | rfl <;> exact ⟨rfl, rfl⟩

set_option maxRecDepth 100000 in
set_option maxHeartbeats 4000000 in
theorem r_Check (w : World) (p : Array Value) (k f t : Int) (b : ByteArray) (hp : p = msA k f t b) (hk : 0 ≤ k) (hk2 : k ≤ 255) (hb : b.size ≤ 140737488351232) :
    Calls Tryz.prog 11 #[.agg p] w (RB (.int .i64 (why (msOf k f t b))) w) := by
  obtain ⟨z, hz, hcase⟩ := why_ways k f t b
  rw [← hz]
  clear hz
  have hf := fun h1 h2 w => r_body w b (by omega) (k := k) h1 h2
  obtain ⟨fb, hfb⟩ : ∃ x, x = fitsB k.toNat (bl b) := ⟨_, rfl⟩
  rw [← hfb] at hcase hf
  clear hfb
  have hWd := fun w => word_ok w k hk hk2
  have hwk := wordN_kind k hk
  obtain ⟨wd, hwd⟩ : ∃ x, x = bsOf (WireS.wordN k.toNat) := ⟨_, rfl⟩
  rw [← hwd] at hWd hwk
  clear hwd
  have p0 : p[0]? = some (.int .u8 k) := by rw [hp]; rfl
  have p1 : p[1]? = some (.int .i64 f) := by rw [hp]; rfl
  have p2 : p[2]? = some (.int .i64 t) := by rw [hp]; rfl
  have p3 : p[3]? = some (.string b) := by rw [hp]; rfl
  obtain ⟨w0, hw0⟩ : ∃ w0, w0 = w.alloc (.cells p 24) := ⟨_, rfl⟩
  have hb0 : Below w.heap.size w w0 := by rw [hw0]; exact ((Below.refl _ w).alloc (Nat.le_refl _) _)
  have hx0 : w0.heap[w.heap.size]? = some (.cells p 24 (0, 0)) := by rw [hw0]; exact heap_new _ _
  have HBL0 := Lib.hid hb0
  have HW0 := Lib.hid hw0
  have lx0 := lt_row hx0
  obtain ⟨cx0, fx0⟩ := row_facts hx0
  have HF := Lib.hid hf
  have HWd := Lib.hid hWd
  clear hf hWd hb0 hw0 hp
  have hcase2 : (z = 2 ∧ (f < 0 ∨ 0 ≤ f ∧ (63 < f ∨ f ≤ 63 ∧ (t < 0 ∨ 0 ≤ t ∧ (63 < t ∨ t ≤ 63 ∧ wd = ⟨#[]⟩))))) ∨ (0 ≤ f ∧ f ≤ 63 ∧ 0 ≤ t ∧ t ≤ 63 ∧ 0 < k ∧ k < 8 ∧ wd.toList.isEmpty = false ∧ (wd.toList == []) = false ∧ (z = 7 ∧ 8192 < b.size ∨ b.size ≤ 8192 ∧ (z = 6 ∧ fb = false ∨ z = 0 ∧ fb = true))) := by
    rcases hcase with ⟨hz, h | ⟨h1, h | ⟨h2, h⟩⟩⟩ | ⟨h1, h2, h3, h4, h5⟩
    · have := server_no h; exact .inl ⟨hz, by omega⟩
    · have := server_yes h1; have := server_no h; exact .inl ⟨hz, by omega⟩
    · have := server_yes h1; have := server_yes h2
      obtain rfl : wd = ⟨#[]⟩ := by rcases hwk with ⟨_, h'⟩ | ⟨h', _⟩ <;> first | exact h' | omega
      exact .inl ⟨hz, .inr ⟨by omega, .inr ⟨by omega, .inr ⟨by omega, .inr ⟨by omega, rfl⟩⟩⟩⟩⟩
    · have := server_yes h1; have := server_yes h2
      obtain ⟨e1, e2⟩ : wd.toList.isEmpty = false ∧ (wd.toList == []) = false := by rcases hwk with ⟨h', _⟩ | ⟨_, h'⟩ <;> first | exact h' | omega
      exact .inr ⟨by omega, by omega, by omega, by omega, h3, h4, e1, e2, h5⟩
  clear hcase hwk
  rcases hcase2 with ⟨rfl, h1 | ⟨h1, h1 | ⟨h1', h2 | ⟨h2, h2 | ⟨h2', rfl⟩⟩⟩⟩⟩ | ⟨h1, h1', h2, h2', h3, h3', e1, e2, ⟨rfl, h4⟩ | ⟨h4, ⟨rfl, rfl⟩ | ⟨rfl, rfl⟩⟩⟩
  · skip
    go_enter Tryz.func11, Tryz.ntmps11
    go_wp2
    go_ret
    rw [← HW0.out]
    exact ⟨rfl, HBL0.out⟩
  · skip
    go_enter Tryz.func11, Tryz.ntmps11
    go_wp2
    go_ret
    rw [← HW0.out]
    exact ⟨rfl, HBL0.out⟩
  · skip
    go_enter Tryz.func11, Tryz.ntmps11
    go_wp2
    go_ret
    rw [← HW0.out]
    exact ⟨rfl, HBL0.out⟩
  · skip
    go_enter Tryz.func11, Tryz.ntmps11
    go_wp2
    go_ret
    rw [← HW0.out]
    exact ⟨rfl, HBL0.out⟩
  · skip
    go_enter Tryz.func11, Tryz.ntmps11
    go_wp2_with fail
    rw [← HW0.out]
    refine (HWd.out w0).mono ?_
    rintro e1 w1 ⟨rfl, hb⟩
    have HBL1 := Lib.hid (HBL0.out.trans (hb.mono HBL0.out.size))
    have hx1 := (hb.block _ lx0).trans hx0
    have lx1 := lt_row hx1
    obtain ⟨cx1, fx1⟩ := row_facts hx1
    clear hb hx0 cx0 fx0
    skip
    go_wp2
    go_ret
    exact ⟨rfl, HBL1.out⟩
  · skip
    go_enter Tryz.func11, Tryz.ntmps11
    go_wp2_with fail
    rw [← HW0.out]
    refine (HWd.out w0).mono ?_
    rintro e1 w1 ⟨rfl, hb⟩
    have HBL1 := Lib.hid (HBL0.out.trans (hb.mono HBL0.out.size))
    have hx1 := (hb.block _ lx0).trans hx0
    have lx1 := lt_row hx1
    obtain ⟨cx1, fx1⟩ := row_facts hx1
    clear hb hx0 cx0 fx0
    skip
    go_wp2
    go_ret
    exact ⟨rfl, HBL1.out⟩
  · skip
    go_enter Tryz.func11, Tryz.ntmps11
    go_wp2_with fail
    rw [← HW0.out]
    refine (HWd.out w0).mono ?_
    rintro e1 w1 ⟨rfl, hb⟩
    have HBL1 := Lib.hid (HBL0.out.trans (hb.mono HBL0.out.size))
    have hx1 := (hb.block _ lx0).trans hx0
    have lx1 := lt_row hx1
    obtain ⟨cx1, fx1⟩ := row_facts hx1
    clear hb hx0 cx0 fx0
    go_wp2_with fail
    refine (HF.out h3 h3' w1).mono ?_
    rintro e3 w2 ⟨rfl, hb⟩
    have HBL2 := Lib.hid (HBL1.out.trans (hb.mono HBL1.out.size))
    have hx2 := (hb.block _ lx1).trans hx1
    have lx2 := lt_row hx2
    obtain ⟨cx2, fx2⟩ := row_facts hx2
    clear hb hx1 cx1 fx1
    try simp only [fitV_true, fitV_false]
    go_wp2
    go_ret
    exact ⟨rfl, HBL2.out⟩
  · skip
    go_enter Tryz.func11, Tryz.ntmps11
    go_wp2_with fail
    rw [← HW0.out]
    refine (HWd.out w0).mono ?_
    rintro e1 w1 ⟨rfl, hb⟩
    have HBL1 := Lib.hid (HBL0.out.trans (hb.mono HBL0.out.size))
    have hx1 := (hb.block _ lx0).trans hx0
    have lx1 := lt_row hx1
    obtain ⟨cx1, fx1⟩ := row_facts hx1
    clear hb hx0 cx0 fx0
    go_wp2_with fail
    refine (HF.out h3 h3' w1).mono ?_
    rintro e3 w2 ⟨rfl, hb⟩
    have HBL2 := Lib.hid (HBL1.out.trans (hb.mono HBL1.out.size))
    have hx2 := (hb.block _ lx1).trans hx1
    have lx2 := lt_row hx2
    obtain ⟨cx2, fx2⟩ := row_facts hx2
    clear hb hx1 cx1 fx1
    try simp only [fitV_true, fitV_false]
    go_wp2
    go_ret
    exact ⟨rfl, HBL2.out⟩


set_option maxRecDepth 100000 in
set_option maxHeartbeats 4000000 in
theorem r_Bytes (w : World) (p : Array Value) (k f t : Int) (b : ByteArray) (hp : p = msA k f t b) (hk : 0 ≤ k) (hk2 : k ≤ 255) (hb : b.size ≤ 140737488351232) :
    Calls Tryz.prog 7 #[.agg p] w (RB (.tuple #[.string (bsOf (bytesM (msOf k f t b))), .int .i64 (why (msOf k f t b))]) w) := by
  have hC := fun w => r_Check w p k f t b hp hk hk2 hb
  have p0 : p[0]? = some (.int .u8 k) := by rw [hp]; rfl
  have p1 : p[1]? = some (.int .i64 f) := by rw [hp]; rfl
  have p2 : p[2]? = some (.int .i64 t) := by rw [hp]; rfl
  have p3 : p[3]? = some (.string b) := by rw [hp]; rfl
  have hps : p.size = 4 := by rw [hp]; rfl
  have hpi : (Tryz.prog.info? 24).map (·.size) = some 4 := by kernel_rfl
  rw [← hps] at hpi
  have HI := Lib.hid hpi
  clear hpi hps
  obtain ⟨w0, hw0⟩ : ∃ w0, w0 = w.alloc (.cells p 24) := ⟨_, rfl⟩
  have hb0 : Below w.heap.size w w0 := by rw [hw0]; exact ((Below.refl _ w).alloc (Nat.le_refl _) _)
  have hx0 : w0.heap[w.heap.size]? = some (.cells p 24 (0, 0)) := by rw [hw0]; exact heap_new _ _
  have HBL0 := Lib.hid hb0
  have HW0 := Lib.hid hw0
  have lx0 := lt_row hx0
  obtain ⟨cx0, fx0⟩ := row_facts hx0
  have Hx0 := Lib.hid hx0
  unfold bytesM
  by_cases hw : why (msOf k f t b) = 0
  · skip
    have hR := why_iff.1 hw
    have hfit := hR.fits
    have f0 := hR.f0
    have f1 := hR.f1
    have t0 := hR.t0
    have t1 := hR.t1
    have k0 := hR.k0
    have k1 := hR.k1
    simp only [msOf] at f0 f1 t0 t1 k0 k1
    clear hR
    rw [if_pos hw]
    obtain ⟨fm, rfl⟩ : ∃ m : Nat, f = m := ⟨f.toNat, by omega⟩
    obtain ⟨tm, rfl⟩ : ∃ m : Nat, t = m := ⟨t.toNat, by omega⟩
    obtain ⟨wd, hwd⟩ : ∃ x, x = bsOf (WireS.wordN k.toNat) := ⟨_, rfl⟩
    have hparts : partsM (msOf k fm tm b) = [wd, bsOf (num fm), bsOf (num tm), b].map bl := by
      simp [partsM, msOf, hwd, bl_bsOf]
    rw [hparts] at hfit ⊢
    have hL := fun w v h => Ref1L.List_ok w v [wd, bsOf (num fm), bsOf (num tm), b] h hfit
    rw [hw] at hC
    rw [hw]
    obtain ⟨out, hout⟩ : ∃ out, out = bsOf (OctetS.list ([wd, bsOf (num fm), bsOf (num tm), b].map bl)) := ⟨_, rfl⟩
    obtain ⟨n1, hn1⟩ : ∃ nt, nt = bsOf (num fm) := ⟨_, rfl⟩
    obtain ⟨n2, hn2⟩ : ∃ nt, nt = bsOf (num tm) := ⟨_, rfl⟩
    have hN1 := fun w => Ref1N.Num_ok w fm (by unfold maxNum; omega)
    have hN2 := fun w => Ref1N.Num_ok w tm (by unfold maxNum; omega)
    rw [← hn1] at hN1
    rw [← hn2] at hN2
    rw [← hout]
    rw [← hout, ← hn1, ← hn2] at hL
    have hWd := fun w => word_ok w k (by omega) (by omega)
    rw [← hwd] at hWd
    have HWd := Lib.hid hWd
    clear hWd
    have HC := Lib.hid hC
    have HN1 := Lib.hid hN1
    have HN2 := Lib.hid hN2
    have HL := Lib.hid hL
    have HWQ := Lib.hid hwd
    clear hC hN1 hN2 hL hn1 hn2 hout hparts hfit hw hwd hp hb0 hw0 hb
    go_enter Tryz.func7, Tryz.ntmps7
    go_wp2_with (first | (rw [← HW0.out]; refine wpList_load_row rfl _ _ rfl w.heap.size rfl _ p (0, 0) _ Hx0.out Tryz.underlying24 rfl HI.out ?_) | fail)
    refine (HC.out w0).mono ?_
    rintro e' w1 ⟨rfl, hb⟩
    have HBL1 := Lib.hid (HBL0.out.trans (hb.mono HBL0.out.size))
    have hx1 := (hb.block _ lx0).trans hx0
    have lx1 := lt_row hx1
    obtain ⟨cx1, fx1⟩ := row_facts hx1
    clear hb hx0 cx0 fx0
    go_wp2_with fail
    refine (HN1.out w1).mono ?_
    rintro e w2 ⟨rfl, hb⟩
    have HBL2 := Lib.hid (HBL1.out.trans (hb.mono HBL1.out.size))
    have hx2 := (hb.block _ lx1).trans hx1
    have lx2 := lt_row hx2
    obtain ⟨cx2, fx2⟩ := row_facts hx2
    clear hb hx1 cx1 fx1
    go_wp2_with fail
    refine (HN2.out w2).mono ?_
    rintro e w3 ⟨rfl, hb⟩
    have HBL3 := Lib.hid (HBL2.out.trans (hb.mono HBL2.out.size))
    have hx3 := (hb.block _ lx2).trans hx2
    have lx3 := lt_row hx3
    obtain ⟨cx3, fx3⟩ := row_facts hx3
    clear hb hx2 cx2 fx2
    go_wp2_with fail
    refine wp_region_noPanic ?_
    refine Wr.region_K (S := (fun W => W.heap[w.heap.size]? = some (.cells p 24 (0, 0)))) (K := []) (by kernel_rfl) ?_
    change Wr.wpAnyK _ _ _ _ _ _ _ _ _ (World.drew w3)
    have hS0 : (World.drew w3).heap[w.heap.size]? = some (.cells p 24 (0, 0)) := hx3
    have hBL0 : Below w3.heap.size w3 (World.drew w3) := Bl.drew (Below.refl _ _)
    refine Wr.wpAnyK_take (i := 0) (v := ?_) rfl (by kernel_rfl) (fun _ _ _ h => h) (Or.inl ⟨by rfl, ?_⟩) hS0 ?_
    rotate_left
    · intro wq hSw
      have q0 := hSw
      obtain ⟨qc0, qf0⟩ := row_facts q0
      go_simp
      rfl
    simp only [Act.put, sx1, sx2, sx3, sx4, sx5, sx6]
    refine Wr.wpAnyK_take (i := 1) (v := ?_) rfl (by kernel_rfl) (fun _ _ _ h => h) (Or.inl ⟨by rfl, ?_⟩) hS0 ?_
    rotate_left
    · intro wq hSw
      have q0 := hSw
      obtain ⟨qc0, qf0⟩ := row_facts q0
      go_simp
      rfl
    simp only [Act.put, sx1, sx2, sx3, sx4, sx5, sx6]
    refine Wr.wpAnyK_take (i := 3) (v := ?_) rfl (by kernel_rfl) (fun _ _ _ h => h) (Or.inl ⟨by rfl, ?_⟩) hS0 ?_
    rotate_left
    · intro wq hSw
      have q0 := hSw
      obtain ⟨qc0, qf0⟩ := row_facts q0
      go_simp
      rfl
    simp only [Act.put, sx1, sx2, sx3, sx4, sx5, sx6]
    refine Wr.wpAnyK_take (i := 4) (v := ?_) rfl (by kernel_rfl) (fun _ _ _ h => h) (Or.inl ⟨by rfl, ?_⟩) hS0 ?_
    rotate_left
    · intro wq hSw
      have q0 := hSw
      obtain ⟨qc0, qf0⟩ := row_facts q0
      go_simp
      rfl
    simp only [Act.put, sx1, sx2, sx3, sx4, sx5, sx6]
    refine Wr.wpAnyK_take (i := 5) (v := ?_) rfl (by kernel_rfl) (fun _ _ _ h => h) (Or.inl ⟨by rfl, ?_⟩) hS0 ?_
    rotate_left
    · intro wq hSw
      have q0 := hSw
      obtain ⟨qc0, qf0⟩ := row_facts q0
      go_simp
      rfl
    simp only [Act.put, sx1, sx2, sx3, sx4, sx5, sx6]
    refine Wr.wpAnyK_take (i := 6) (v := ?_) rfl (by kernel_rfl) (fun _ _ _ h => h) (Or.inl ⟨by rfl, ?_⟩) hS0 ?_
    rotate_left
    · intro wq hSw
      have q0 := hSw
      obtain ⟨qc0, qf0⟩ := row_facts q0
      go_simp
      rfl
    simp only [Act.put, sx1, sx2, sx3, sx4, sx5, sx6]
    refine Wr.wpAnyK_one (i := 2) (by kernel_rfl) ?_
    refine wpOp_call rfl (by rfl) (by go_simp; first | done | rfl | exact ⟨⟨rfl, rfl⟩, rfl⟩ | exact ⟨rfl, rfl⟩) ?_
    refine (HWd.out (World.drew w3)).mono ?_
    rintro e w8 ⟨rfl, hb_w8⟩
    have hS1 : w8.heap[w.heap.size]? = some (.cells p 24 (0, 0)) := (hb_w8.block _ (lt_row (hS0))).trans (hS0)
    have hBL1 : Below w3.heap.size w3 w8 := hBL0.trans (hb_w8.mono hBL0.size)
    refine ⟨_, rfl, ?_, ?_⟩
    · exact hS1
    simp only [Act.put, sx1, sx2, sx3, sx4, sx5, sx6]
    refine Wr.wpAnyK_one (i := 7) (by kernel_rfl) ?_
    refine wpOp_run rfl (by rfl) (w' := w8.alloc (.cells #[.string wd, .string n1, .string n2, .string b] 9)) (v := .slice (some ⟨w8.heap.size, 0, none⟩) 4 4) (by go_simp; first | done | rfl) ?_
    obtain ⟨w6, hw_w6⟩ : ∃ w6, w6 = w8.alloc (.cells #[.string wd, .string n1, .string n2, .string b] 9) := ⟨_, rfl⟩
    rw [← hw_w6]
    have hb_w6 : Below w8.heap.size w8 w6 := by rw [hw_w6]; exact (Below.refl _ _).alloc (Nat.le_refl _) _
    have hn_w6 : w6.heap[w8.heap.size]? = some (.cells #[.string wd, .string n1, .string n2, .string b] 9 (0, 0)) := by rw [hw_w6]; exact heap_new' _ rfl
    have hS2 : w6.heap[w.heap.size]? = some (.cells p 24 (0, 0)) := (hb_w6.block _ (lt_row (hS1))).trans (hS1)
    have hBL2 : Below w3.heap.size w3 w6 := hBL1.trans (hb_w6.mono hBL1.size)
    clear hw_w6
    refine ⟨hS2, ?_⟩
    simp only [Act.put, sx1, sx2, sx3, sx4, sx5, sx6]
    refine Wr.wpAnyK_one (i := 8) (by kernel_rfl) ?_
    refine wpOp_call rfl (by rfl) (by go_simp; first | done | rfl | exact ⟨⟨rfl, rfl⟩, rfl⟩ | exact ⟨rfl, rfl⟩) ?_
    refine (HL.out w6 _ (EventB.sl_built hn_w6 rfl (by simp [maxLen]))).mono ?_
    rintro e w7 ⟨rfl, hb_w7⟩
    have hS3 : w7.heap[w.heap.size]? = some (.cells p 24 (0, 0)) := (hb_w7.block _ (lt_row (hS2))).trans (hS2)
    have hBL3 : Below w3.heap.size w3 w7 := hBL2.trans (hb_w7.mono hBL2.size)
    refine ⟨_, rfl, ?_, ?_⟩
    · exact hS3
    simp only [Act.put, sx1, sx2, sx3, sx4, sx5, sx6]
    refine Wr.wpAnyK_take (i := 9) (v := ?_) rfl (by kernel_rfl) (fun _ _ _ h => h) (Or.inl ⟨by rfl, ?_⟩) hS3 ?_
    rotate_left
    · intro wq hSw
      have q0 := hSw
      obtain ⟨qc0, qf0⟩ := row_facts q0
      go_simp
      rfl
    simp only [Act.put, sx1, sx2, sx3, sx4, sx5, sx6]
    refine Wr.wpAnyK_take (i := 10) (v := ?_) rfl (by kernel_rfl) (fun _ _ _ h => h) (Or.inl ⟨by rfl, ?_⟩) hS3 ?_
    rotate_left
    · intro wq hSw
      have q0 := hSw
      obtain ⟨qc0, qf0⟩ := row_facts q0
      go_simp
      rfl
    simp only [Act.put, sx1, sx2, sx3, sx4, sx5, sx6]
    refine Wr.wpAnyK_take (i := 11) (v := ?_) rfl (by kernel_rfl) (fun _ _ _ h => h) (Or.inl ⟨by rfl, ?_⟩) hS3 ?_
    rotate_left
    · intro wq hSw
      have q0 := hSw
      obtain ⟨qc0, qf0⟩ := row_facts q0
      go_simp
      rfl
    simp only [Act.put, sx1, sx2, sx3, sx4, sx5, sx6]
    refine Wr.wpAnyK_take (i := 12) (v := ?_) rfl (by kernel_rfl) (fun _ _ _ h => h) (Or.inl ⟨by rfl, ?_⟩) hS3 ?_
    rotate_left
    · intro wq hSw
      have q0 := hSw
      obtain ⟨qc0, qf0⟩ := row_facts q0
      go_simp
      rfl
    simp only [Act.put, sx1, sx2, sx3, sx4, sx5, sx6]
    refine Wr.wpAnyK_done (by kernel_rfl) (NoPanic.normal ?_) _
    go_wp2
    go_ret2
    exact ⟨rfl, HBL3.out.trans (hBL3.mono HBL3.out.size)⟩
  · skip
    rw [if_neg hw]
    obtain ⟨z, hz⟩ : ∃ z, z = why (msOf k f t b) := ⟨_, rfl⟩
    rw [← hz] at hC hw ⊢
    have hw' : (z != 0) = true := by simpa using hw
    have HC := Lib.hid hC
    clear hC hw hz hp hb0 hw0 hb
    go_enter Tryz.func7, Tryz.ntmps7
    go_wp2_with (first | (rw [← HW0.out]; refine wpList_load_row rfl _ _ rfl w.heap.size rfl _ p (0, 0) _ Hx0.out Tryz.underlying24 rfl HI.out ?_) | fail)
    refine (HC.out w0).mono ?_
    rintro e' w1 ⟨rfl, hb⟩
    have HBL1 := Lib.hid (HBL0.out.trans (hb.mono HBL0.out.size))
    have hx1 := (hb.block _ lx0).trans hx0
    have lx1 := lt_row hx1
    obtain ⟨cx1, fx1⟩ := row_facts hx1
    clear hb hx0 cx0 fx0
    go_wp2
    go_ret2
    exact ⟨rfl, HBL1.out⟩


set_option maxRecDepth 100000 in
set_option maxHeartbeats 4000000 in
theorem Parse_bad (w : World) (s : ByteArray) (hs : s.size ≤ 140737488351232) {l : List (List UInt8)} {y : Int} (ha : all (bl s) = (l, y)) (hbad : y ≠ 0 ∨ (y = 0 ∧ l.length ≠ 4)) :
    Calls Tryz.prog 9 #[.string s] w (RB (msV (parseM (bl s))) w) := by
  have hA := fun w => Ref1A.All_ok w s (by unfold maxLen; omega)
  unfold AllPost at hA
  rw [ha] at hA
  have HALL := Lib.hid hA
  clear hA
  rw [parseM_bad ha (by omega)]
  show Calls _ _ _ w (RB (.tuple #[.agg msZ, .int .i64 6]) w)
  obtain ⟨Z, hZ⟩ : ∃ Z, Z = msZ := ⟨_, rfl⟩
  have HLIT : Hid ((#[.int .u8 0, .int .i64 0, .int .i64 0, .string ⟨#[]⟩] : Array Value) = Z) := Lib.hid (by rw [hZ]; kernel_rfl)
  have HZN : Hid (Z.size = 4) := Lib.hid (by rw [hZ]; kernel_rfl)
  have HZS : Hid ((Tryz.prog.info? 24).map (·.size) = some Z.size) := Lib.hid (by rw [hZ]; kernel_rfl)
  have HZO : Hid (Z.all (·.oneCell') = true) := Lib.hid (by rw [hZ]; exact by simp [dlZ, pfZ, msZ, dlA, pfA, msA, byV, zero32, Value.oneCell'])
  rw [← hZ]
  obtain ⟨w0, hw0⟩ : ∃ w0, w0 = w.alloc (.cells Z 24) := ⟨_, rfl⟩
  have hb0 : Below w.heap.size w w0 := by rw [hw0]; exact (Below.refl _ _).alloc (Nat.le_refl _) _
  have HX0 : Hid (w0.heap[w.heap.size]? = some (.cells Z 24 (0, 0))) := Lib.hid (by rw [hw0]; exact heap_new _ _)
  have lX0 := lt_row HX0.out
  have HBL0 := Lib.hid hb0
  have HW0 := Lib.hid hw0
  clear hw0 hb0 hZ
  have hcase : (y != 0) = true ∨ (y = 0 ∧ ((l.length : Int) != 4) = true) := by
    rcases hbad with h | ⟨h0, h⟩
    · exact .inl (by simpa using h)
    · exact .inr ⟨h0, by simp; omega⟩
  clear hbad ha
  rcases hcase with hy | ⟨rfl, hy⟩
  all_goals
    go_enter Tryz.func9, Tryz.ntmps9
    go_wp2_with fail
    rw [HLIT.out, ← HW0.out]
    refine (HALL.out w0).mono ?_
    rintro e w1 ⟨v, rfl, hl, hb⟩
    obtain ⟨av, cap, rfl, _, _⟩ := (Sl.ofOwn hl).form
    clear hl
    have HX1 := Lib.hid ((hb.block _ lX0).trans HX0.out)
    have lX1 := lt_row HX1.out
    have HBL1 := Lib.hid (HBL0.out.trans (hb.mono HBL0.out.size))
    clear hb 
    clear lX0
    go_wp2_with (first | (refine wpList_store_rowA rfl _ _ _ rfl w.heap.size Z rfl (by rw [← HLIT.out]; rfl) _ _ HX1.out HZS.out rfl HZO.out ?_) | fail)
    intro wf hwf
    go_wp2
    refine bodyPost_ret (v := .tuple #[.agg Z, .int .i64 6]) (results_cell_slot rfl _ _ w.heap.size 24 Z (0, 0) _ rfl (by rw [hwf.out]; exact setRow_at HX1.out) Tryz.underlying24 rfl HZS.out rfl) rfl ⟨rfl, by rw [hwf.out]; exact below_row HBL1.out (Nat.le_refl _) _⟩


set_option maxRecDepth 100000 in
set_option maxHeartbeats 4000000 in
theorem Parse_four (w : World) (s : ByteArray) (hs : s.size ≤ 140737488351232) {k a b c : List UInt8} (ha : all (bl s) = ([k, a, b, c], 0)) :
    Calls Tryz.prog 9 #[.string s] w (RB (msV (parseM (bl s))) w) := by
  have hA := fun w => Ref1A.All_ok w s (by unfold maxLen; omega)
  unfold AllPost at hA
  rw [ha] at hA
  have HALL := Lib.hid hA
  clear hA
  obtain ⟨K, hK⟩ : ∃ bb, bb = bsOf k := ⟨_, rfl⟩
  have bK : bl K = k := by rw [hK, bl_bsOf]
  have zK : K.size ≤ 8192 := by rw [hK]; exact parts_len ha _ (by simp)
  have HK := Lib.hid hK
  obtain ⟨A, hA⟩ : ∃ bb, bb = bsOf a := ⟨_, rfl⟩
  have bA : bl A = a := by rw [hA, bl_bsOf]
  have zA : A.size ≤ 8192 := by rw [hA]; exact parts_len ha _ (by simp)
  have HA := Lib.hid hA
  obtain ⟨D, hD⟩ : ∃ bb, bb = bsOf b := ⟨_, rfl⟩
  have bD : bl D = b := by rw [hD, bl_bsOf]
  have zD : D.size ≤ 8192 := by rw [hD]; exact parts_len ha _ (by simp)
  have HD := Lib.hid hD
  obtain ⟨Q, hQ⟩ : ∃ bb, bb = bsOf c := ⟨_, rfl⟩
  have bQ : bl Q = c := by rw [hQ, bl_bsOf]
  have zQ : Q.size ≤ 8192 := by rw [hQ]; exact parts_len ha _ (by simp)
  have HQ := Lib.hid hQ
  obtain ⟨n1, hn1⟩ : ∃ x, x = gnI a := ⟨_, rfl⟩
  obtain ⟨o1, ho1⟩ : ∃ o, o = (small 63 a).isSome := ⟨_, rfl⟩
  have HHn1 : Hid (∀ w, Calls Tryz.prog 29 #[.string A, .int .u64 63] w (RB (.tuple #[.int .i64 n1, .bool o1]) w)) := Lib.hid (by rw [hn1, ho1, ← bA]; exact fun w => r_number w A (by unfold maxLen; omega) 63 63 rfl (by omega))
  obtain ⟨n2, hn2⟩ : ∃ x, x = gnI b := ⟨_, rfl⟩
  obtain ⟨o2, ho2⟩ : ∃ o, o = (small 63 b).isSome := ⟨_, rfl⟩
  have HHn2 : Hid (∀ w, Calls Tryz.prog 29 #[.string D, .int .u64 63] w (RB (.tuple #[.int .i64 n2, .bool o2]) w)) := Lib.hid (by rw [hn2, ho2, ← bD]; exact fun w => r_number w D (by unfold maxLen; omega) 63 63 rfl (by omega))
  have hC0 : ∀ j : Nat, 1 ≤ j → j < 8 → ∀ E1, E1 = msA j n1 n2 Q → ∀ w, Calls Tryz.prog 11 #[.agg E1] w (RB (.int .i64 (why ⟨j, n1, n2, c⟩)) w) := by
    intro j h1 h8 E1 hE1 w
    have := r_Check w E1 j n1 n2 Q hE1 (by omega) (by omega) (by omega)
    rw [show msOf j n1 n2 Q = ⟨j, n1, n2, c⟩ by unfold msOf; rw [bQ]] at this
    exact this
  obtain ⟨V, hV⟩ : ∃ V, V = msV (parseM (bl s)) := ⟨_, rfl⟩
  rw [← hV]
  have hVhit : ∀ j : Nat, 1 ≤ j → j < 8 → WireS.wordN j = k → o1 = true → o2 = true → why ⟨j, n1, n2, c⟩ = 0 → V = .tuple #[.agg (msA j n1 n2 Q), .int .i64 0] := by
    intro j h1 h8 hw e1 e2 hy
    obtain ⟨x, hx⟩ := Option.isSome_iff_exists.1 (ho1.symm.trans e1)
    obtain ⟨y, hy'⟩ := Option.isSome_iff_exists.1 (ho2.symm.trans e2)
    rw [hV, parseM_four ha, ← hw, kindM_word (by omega) h8, numI_some hx, numI_some hy', ← gnI_small hx, ← gnI_small hy', ← hn1, ← hn2, if_pos hy, hQ]
    rfl
  have hVmiss : (∀ j : Nat, 1 ≤ j → j < 8 → WireS.wordN j = k → o1 = true → o2 = true → why ⟨j, n1, n2, c⟩ ≠ 0) → V = .tuple #[.agg msZ, .int .i64 6] := by
    intro hno
    rw [hV, parseM_four ha]
    by_cases hk0 : kindM k = 0
    · rw [hk0, if_neg (fun h => by have := (why_iff.1 h).k0; simp at this)]; rfl
    · have hkl := kindM_lt k
      have hwk := word_kindM (s := k) (by omega)
      cases hx : small 63 a with
      | none => rw [numI_none hx, if_neg (why_no (.inl (by omega)))]; rfl
      | some x =>
        cases hy : small 63 b with
        | none => rw [numI_none hy, if_neg (why_no (.inr (by omega)))]; rfl
        | some y =>
          rw [numI_some hx, numI_some hy, ← gnI_small hx, ← gnI_small hy, ← hn1, ← hn2, if_neg (hno (kindM k) (by omega) hkl hwk (by rw [ho1, hx]; rfl) (by rw [ho2, hy]; rfl))]; rfl
  have hwK : ∀ j : Nat, bsOf (WireS.wordN j) = K → WireS.wordN j = k := fun j h => by rw [← bK, ← h, bl_bsOf]
  have hwK2 : ∀ j : Nat, WireS.wordN j = k → bsOf (WireS.wordN j) = K := fun j h => by rw [h, hK]
  obtain ⟨Z, hZ⟩ : ∃ Z, Z = msZ := ⟨_, rfl⟩
  have HLIT : Hid ((#[.int .u8 0, .int .i64 0, .int .i64 0, .string ⟨#[]⟩] : Array Value) = Z) := Lib.hid (by rw [hZ]; kernel_rfl)
  have HZN : Hid (Z.size = 4) := Lib.hid (by rw [hZ]; kernel_rfl)
  have HZS : Hid ((Tryz.prog.info? 24).map (·.size) = some Z.size) := Lib.hid (by rw [hZ]; kernel_rfl)
  have HZO : Hid (Z.all (·.oneCell') = true) := Lib.hid (by rw [hZ]; exact by simp [dlZ, pfZ, msZ, dlA, pfA, msA, byV, zero32, Value.oneCell'])
  obtain ⟨w0, hw0⟩ : ∃ w0, w0 = w.alloc (.cells Z 24) := ⟨_, rfl⟩
  have hb0 : Below w.heap.size w w0 := by rw [hw0]; exact (Below.refl _ _).alloc (Nat.le_refl _) _
  have HX0 : Hid (w0.heap[w.heap.size]? = some (.cells Z 24 (0, 0))) := Lib.hid (by rw [hw0]; exact heap_new _ _)
  have lX0 := lt_row HX0.out
  have HBL0 := Lib.hid hb0
  have HW0 := Lib.hid hw0
  have hZk := hZ
  clear hw0 hb0 hZ
  have HVM : Hid ((∀ j : Nat, 1 ≤ j → j < 8 → WireS.wordN j = k → o1 = true → o2 = true → why ⟨j, n1, n2, c⟩ ≠ 0) → V = .tuple #[.agg Z, .int .i64 6]) := Lib.hid (by rw [hZk]; exact hVmiss)
  have HVH := Lib.hid hVhit
  have HWK := Lib.hid hwK
  have HWK2 := Lib.hid hwK2
  have HC0 := Lib.hid hC0
  clear hZk hVmiss hVhit hwK hwK2 hC0 hV hn1 hn2 ho1 ho2 ha hK bK hA bA hD bD hQ bQ
  go_enter Tryz.func9, Tryz.ntmps9
  go_wp2_with fail
  rw [HLIT.out, ← HW0.out]
  refine (HALL.out w0).mono ?_
  rintro e w1 ⟨v, rfl, hl, hb⟩
  obtain ⟨B, cap, rfl, hB, hc⟩ := list_n 4 hl rfl (by omega)
  clear hl
  have hc0_1 : w1.cell? ⟨B, 0, none⟩ = some (.string K) := by rw [HK.out]; exact hc 0 _ rfl
  have hc1_1 : w1.cell? ⟨B, 1, none⟩ = some (.string A) := by rw [HA.out]; exact hc 1 _ rfl
  have hc2_1 : w1.cell? ⟨B, 2, none⟩ = some (.string D) := by rw [HD.out]; exact hc 2 _ rfl
  have hc3_1 : w1.cell? ⟨B, 3, none⟩ = some (.string Q) := by rw [HQ.out]; exact hc 3 _ rfl
  have hBX : ¬ w.heap.size = B := by omega
  clear hc hB
  have HX1 := Lib.hid ((hb.block _ lX0).trans HX0.out)
  have lX1 := lt_row HX1.out
  have HBL1 := Lib.hid (HBL0.out.trans (hb.mono HBL0.out.size))
  clear hb 
  clear lX0
  have hc0x1 := hc0_1
  clear hc0_1
  have hc1x1 := hc1_1
  clear hc1_1
  have hc2x1 := hc2_1
  clear hc2_1
  have hc3x1 := hc3_1
  clear hc3_1
  go_wp2_with fail
  refine (HHn1.out w1).mono ?_
  rintro e w2 ⟨rfl, hb⟩
  have HX2 := Lib.hid ((hb.block _ lX1).trans HX1.out)
  have lX2 := lt_row HX2.out
  have HBL2 := Lib.hid (HBL1.out.trans (hb.mono HBL1.out.size))
  have hc0x2 := below_cell hb hc0x1
  have hc1x2 := below_cell hb hc1x1
  have hc2x2 := below_cell hb hc2x1
  have hc3x2 := below_cell hb hc3x1
  clear hb hc0x1 hc1x1 hc2x1 hc3x1
  clear lX1
  go_wp2_with fail
  refine (HHn2.out w2).mono ?_
  rintro e w3 ⟨rfl, hb⟩
  have HX3 := Lib.hid ((hb.block _ lX2).trans HX2.out)
  have lX3 := lt_row HX3.out
  have HBL3 := Lib.hid (HBL2.out.trans (hb.mono HBL2.out.size))
  have hc0x3 := below_cell hb hc0x2
  have hc1x3 := below_cell hb hc1x2
  have hc2x3 := below_cell hb hc2x2
  have hc3x3 := below_cell hb hc3x2
  clear hb hc0x2 hc1x2 hc2x2 hc3x2
  clear lX2
  have Hc0 := Lib.hid hc0x3
  have Hc3 := Lib.hid hc3x3
  clear hc0x3 hc1x3 hc2x3 hc3x3
  go_wp2
  go_loopw [10] (fun i wr => ∃ j : Nat, i = .int .u8 j ∧ 1 ≤ j ∧ j ≤ 8 ∧ (∀ x : Nat, 1 ≤ x → x < j → WireS.wordN x = k → o1 = true → o2 = true → why ⟨x, n1, n2, c⟩ ≠ 0) ∧ Below w3.heap.size w3 wr) (fun i _ => 8 - (intOf i).toNat)
  case atStart => exact ⟨1, rfl, by omega, by omega, fun x h1 h2 => by omega, Below.refl _ _⟩
  case round =>
    obtain ⟨j, rfl, hj1, hj8, hall, hb⟩ := hrel
    have Hall := Lib.hid hall
    have HB := Lib.hid hb
    clear hall hb
    obtain ⟨w4, rfl⟩ : ∃ w4 : World, w4 = wr := ⟨_, rfl⟩
    have HX4 := Lib.hid ((HB.out.block _ lX3).trans HX3.out)
    have lX4 := lt_row HX4.out
    have HBL4 := Lib.hid (HBL3.out.trans (HB.out.mono HBL3.out.size))
    have hc0x4 := below_cell HB.out Hc0.out
    have hc3x4 := below_cell HB.out Hc3.out
    by_cases hlt : j < 8
    · skip
      obtain ⟨E1, hE1⟩ : ∃ E, E = msA j n1 n2 Q := ⟨_, rfl⟩
      have hE1n : E1.size = 4 := by rw [hE1]; rfl
      have HE1S : Hid ((Tryz.prog.info? 24).map (·.size) = some E1.size) := Lib.hid (by rw [hE1n, ← HZN.out]; exact HZS.out)
      have HE1Z : Hid (Z.size = E1.size) := Lib.hid (by rw [hE1n, HZN.out])
      have HE1N : Hid (4 = E1.size) := Lib.hid hE1n.symm
      have HE1O : Hid (E1.all (·.oneCell') = true) := Lib.hid (by rw [hE1]; simp [msA, Value.oneCell'])
      have HE1 := Lib.hid hE1
      clear hE1n
      have HC := Lib.hid (HC0.out j hj1 hlt E1 hE1)
      have HWD := Lib.hid (fun w => word_ok w (j : Int) (by omega) (by omega))
      have hnat : ((j : Int)).toNat = j := Int.toNat_natCast j
      rw [hnat] at HWD
      obtain ⟨wd, hwd⟩ : ∃ x, x = bsOf (WireS.wordN j) := ⟨_, rfl⟩
      rw [← hwd] at HWD
      obtain ⟨cz, hcz⟩ : ∃ z, z = why ⟨j, n1, n2, c⟩ := ⟨_, rfl⟩
      rw [← hcz] at HC
      have hway : ((wd.toList == K.toList) = false ∧ WireS.wordN j ≠ k) ∨ ((wd.toList == K.toList) = true ∧ WireS.wordN j = k) := by
        by_cases h : WireS.wordN j = k
        · exact .inr ⟨by rw [hwd, HWK2.out j h]; exact BEq.refl _, h⟩
        · exact .inl ⟨str_ne (fun e => h (HWK.out j (by rw [← hwd]; exact e))), h⟩
      have hcase : ((wd.toList == K.toList) = false ∧ (WireS.wordN j = k → o1 = true → o2 = true → cz ≠ 0)) ∨ ((wd.toList == K.toList) = true ∧ (o1 = false ∨ (o1 = true ∧ (o2 = false ∨ (o2 = true ∧ ((cz == 0) = false ∨ (cz == 0) = true ∧ V = .tuple #[.agg E1, .int .i64 0])))))) := by
        rcases hway with ⟨h, h'⟩ | ⟨h, h'⟩
        · exact .inl ⟨h, fun e => absurd e h'⟩
        · refine .inr ⟨h, ?_⟩
          cases o1
          · exact .inl rfl
          · refine .inr ⟨rfl, ?_⟩
            cases o2
            · exact .inl rfl
            · refine .inr ⟨rfl, ?_⟩
              by_cases hz : cz = 0
              · exact .inr ⟨by simpa using hz, by rw [hE1]; exact HVH.out j hj1 hlt h' rfl rfl (hcz.symm.trans hz)⟩
              · exact .inl (by simpa using hz)
      have hnext : (WireS.wordN j = k → o1 = true → o2 = true → cz ≠ 0) → ∀ x : Nat, 1 ≤ x → x < j + 1 → WireS.wordN x = k → o1 = true → o2 = true → why ⟨x, n1, n2, c⟩ ≠ 0 := by
        intro h x h1 h2
        by_cases hx : x = j
        · subst hx; rw [← hcz]; exact h
        · exact Hall.out x h1 (by omega)
      have HNX := Lib.hid hnext
      clear hway hnext hnat hE1 hwd hcz
      rcases hcase with ⟨he, hno⟩ | ⟨he, rfl | ⟨rfl, rfl | ⟨rfl, hz | ⟨hz, rfl⟩⟩⟩⟩
      · skip
        have HNO := Lib.hid hno
        clear hno
        go_wp2_with (first | (refine wpList_store_rowA rfl _ _ _ rfl w4.heap.size E1 rfl (by rw [HE1.out]; first | rfl | kernel_rfl) _ _ (heap_new _ _) HE1S.out (by rw [← HE1N.out]; rfl) HE1O.out ?_) | fail)
        intro u1 hu1
        have hb : Below w4.heap.size w4 u1 := by rw [hu1.out]; exact below_row ((Below.refl _ _).alloc (Nat.le_refl _) _) (Nat.le_refl _) _
        have HY5 : Hid (u1.heap[w4.heap.size]? = some (.cells E1 24 (0, 0))) := Lib.hid (by rw [hu1.out]; exact setRow_at (heap_new _ _))
        clear hu1
        obtain ⟨w5, hww⟩ : ∃ w', w' = u1 := ⟨_, rfl⟩
        rw [← hww] at hb HY5 ⊢
        clear hww
        have HB5 := Lib.hid (HB.out.trans (hb.mono HB.out.size))
        have HX5 := Lib.hid ((hb.block _ lX4).trans HX4.out)
        have lX5 := lt_row HX5.out
        have HBL5 := Lib.hid (HBL4.out.trans (hb.mono HBL4.out.size))
        have hc0x5 := below_cell hb hc0x4
        have hc3x5 := below_cell hb hc3x4
        clear hb hc0x4 hc3x4
        clear lX4
        have lY5 := lt_row HY5.out
        go_wp2_with fail
        refine wp_region_noPanic ?_
        refine Wr.region_K (S := (fun W => W.cell? ⟨B, 0, none⟩ = some (.string K) ∧ W.heap[w4.heap.size]? = some (.cells E1 24 (0, 0)))) (K := []) (by kernel_rfl) ?_
        change Wr.wpAnyK _ _ _ _ _ _ _ _ _ (World.drew w5)
        have hBL0 : Below w5.heap.size w5 (World.drew w5) := Bl.drew (Below.refl _ _)
        have hS0 : (World.drew w5).cell? ⟨B, 0, none⟩ = some (.string K) ∧ (World.drew w5).heap[w4.heap.size]? = some (.cells E1 24 (0, 0)) := ⟨below_cell hBL0 hc0x5, (hBL0.block _ (lt_row HY5.out)).trans HY5.out⟩
        refine Wr.wpAnyK_take (i := 0) (v := ?_) rfl (by kernel_rfl) (fun _ _ _ h => h) (Or.inl ⟨by rfl, ?_⟩) hS0 ?_
        rotate_left
        · intro wq hSw
          obtain ⟨q0, q1⟩ := hSw
          obtain ⟨qc1, qf1⟩ := row_facts q1
          go_simp
          rfl
        simp only [Act.put, sx1, sx2, sx3, sx4, sx5, sx6]
        refine Wr.wpAnyK_take (i := 2) (v := ?_) rfl (by kernel_rfl) (fun _ _ _ h => h) (Or.inl ⟨by rfl, ?_⟩) hS0 ?_
        rotate_left
        · intro wq hSw
          obtain ⟨q0, q1⟩ := hSw
          obtain ⟨qc1, qf1⟩ := row_facts q1
          go_simp
          rfl
        simp only [Act.put, sx1, sx2, sx3, sx4, sx5, sx6]
        refine Wr.wpAnyK_take (i := 3) (v := ?_) rfl (by kernel_rfl) (fun _ _ _ h => h) (Or.inl ⟨by rfl, ?_⟩) hS0 ?_
        rotate_left
        · intro wq hSw
          obtain ⟨q0, q1⟩ := hSw
          obtain ⟨qc1, qf1⟩ := row_facts q1
          go_simp
          rfl
        simp only [Act.put, sx1, sx2, sx3, sx4, sx5, sx6]
        refine Wr.wpAnyK_take (i := 4) (v := ?_) rfl (by kernel_rfl) (fun _ _ _ h => h) (Or.inl ⟨by rfl, ?_⟩) hS0 ?_
        rotate_left
        · intro wq hSw
          obtain ⟨q0, q1⟩ := hSw
          obtain ⟨qc1, qf1⟩ := row_facts q1
          go_simp
          rfl
        simp only [Act.put, sx1, sx2, sx3, sx4, sx5, sx6]
        refine Wr.wpAnyK_one (i := 1) (by kernel_rfl) ?_
        refine wpOp_call rfl (by rfl) (by go_simp; first | done | rfl | exact ⟨⟨rfl, rfl⟩, rfl⟩ | exact ⟨rfl, rfl⟩) ?_
        refine (HWD.out (World.drew w5)).mono ?_
        rintro e w6 ⟨rfl, hb_w6⟩
        have hBL1 : Below w5.heap.size w5 w6 := hBL0.trans (hb_w6.mono hBL0.size)
        have hS1 : w6.cell? ⟨B, 0, none⟩ = some (.string K) ∧ w6.heap[w4.heap.size]? = some (.cells E1 24 (0, 0)) := ⟨below_cell hBL1 hc0x5, (hBL1.block _ (lt_row HY5.out)).trans HY5.out⟩
        refine ⟨_, rfl, ?_, ?_⟩
        · exact hS1
        simp only [Act.put, sx1, sx2, sx3, sx4, sx5, sx6]
        refine Wr.wpAnyK_take (i := 5) (v := ?_) rfl (by kernel_rfl) (fun _ _ _ h => h) (Or.inl ⟨by rfl, ?_⟩) hS1 ?_
        rotate_left
        · intro wq hSw
          obtain ⟨q0, q1⟩ := hSw
          obtain ⟨qc1, qf1⟩ := row_facts q1
          go_simp
          rfl
        simp only [Act.put, sx1, sx2, sx3, sx4, sx5, sx6]
        refine Wr.wpAnyK_take (i := 6) (v := ?_) rfl (by kernel_rfl) (fun _ _ _ h => h) (Or.inl ⟨by rfl, ?_⟩) hS1 ?_
        rotate_left
        · intro wq hSw
          obtain ⟨q0, q1⟩ := hSw
          obtain ⟨qc1, qf1⟩ := row_facts q1
          go_simp
          rfl
        simp only [Act.put, sx1, sx2, sx3, sx4, sx5, sx6]
        refine Wr.wpAnyK_take (i := 7) (v := undef) rfl (by kernel_rfl) (fun _ _ _ h => h) (Or.inr ⟨by rfl, rfl⟩) hS1 ?_
        simp only [Act.put, sx1, sx2, sx3, sx4, sx5, sx6]
        refine Wr.wpAnyK_take (i := 8) (v := ?_) rfl (by kernel_rfl) (fun _ _ _ h => h) (Or.inl ⟨by rfl, ?_⟩) hS1 ?_
        rotate_left
        · intro wq hSw
          obtain ⟨q0, q1⟩ := hSw
          obtain ⟨qc1, qf1⟩ := row_facts q1
          go_simp
          rfl
        simp only [Act.put, sx1, sx2, sx3, sx4, sx5, sx6]
        refine Wr.wpAnyK_take (i := 9) (v := ?_) rfl (by kernel_rfl) (fun _ _ _ h => h) (Or.inl ⟨by rfl, ?_⟩) hS1 ?_
        rotate_left
        · intro wq hSw
          obtain ⟨q0, q1⟩ := hSw
          obtain ⟨qc1, qf1⟩ := row_facts q1
          go_simp
          rfl
        simp only [Act.put, sx1, sx2, sx3, sx4, sx5, sx6]
        refine Wr.wpAnyK_take (i := 10) (v := undef) rfl (by kernel_rfl) (fun _ _ _ h => h) (Or.inr ⟨by rfl, rfl⟩) hS1 ?_
        simp only [Act.put, sx1, sx2, sx3, sx4, sx5, sx6]
        refine Wr.wpAnyK_take (i := 11) (v := ?_) rfl (by kernel_rfl) (fun _ _ _ h => h) (Or.inl ⟨by rfl, ?_⟩) hS1 ?_
        rotate_left
        · intro wq hSw
          obtain ⟨q0, q1⟩ := hSw
          obtain ⟨qc1, qf1⟩ := row_facts q1
          go_simp
          rfl
        simp only [Act.put, sx1, sx2, sx3, sx4, sx5, sx6]
        refine Wr.wpAnyK_take (i := 12) (v := ?_) rfl (by kernel_rfl) (fun _ _ _ h => h) (Or.inl ⟨by rfl, ?_⟩) hS1 ?_
        rotate_left
        · intro wq hSw
          obtain ⟨q0, q1⟩ := hSw
          obtain ⟨qc1, qf1⟩ := row_facts q1
          go_simp
          rfl
        simp only [Act.put, sx1, sx2, sx3, sx4, sx5, sx6]
        refine Wr.wpAnyK_take (i := 13) (v := undef) rfl (by kernel_rfl) (fun _ _ _ h => h) (Or.inr ⟨by rfl, rfl⟩) hS1 ?_
        simp only [Act.put, sx1, sx2, sx3, sx4, sx5, sx6]
        refine Wr.wpAnyK_take (i := 14) (v := undef) rfl (by kernel_rfl) (fun _ _ _ h => h) (Or.inr ⟨by rfl, rfl⟩) hS1 ?_
        simp only [Act.put, sx1, sx2, sx3, sx4, sx5, sx6]
        refine Wr.wpAnyK_take (i := 15) (v := undef) rfl (by kernel_rfl) (fun _ _ _ h => h) (Or.inr ⟨by rfl, rfl⟩) hS1 ?_
        simp only [Act.put, sx1, sx2, sx3, sx4, sx5, sx6]
        refine Wr.wpAnyK_take (i := 16) (v := ?_) rfl (by kernel_rfl) (fun _ _ _ h => h) (Or.inl ⟨by rfl, ?_⟩) hS1 ?_
        rotate_left
        · intro wq hSw
          obtain ⟨q0, q1⟩ := hSw
          obtain ⟨qc1, qf1⟩ := row_facts q1
          go_simp
          rfl
        simp only [Act.put, sx1, sx2, sx3, sx4, sx5, sx6]
        refine Wr.wpAnyK_done (by kernel_rfl) (NoPanic.normal ?_) _
        have HB6 := Lib.hid (HB5.out.trans (hBL1.mono HB5.out.size))
        have hbn := hBL1
        obtain ⟨w8, hw8⟩ : ∃ x, x = w6 := ⟨_, rfl⟩
        rw [← hw8] at hbn HB6 ⊢
        clear hw8 hBL0 hS0 hBL1 hS1
        obtain ⟨w6', hw6⟩ : ∃ x, x = w8 := ⟨_, rfl⟩
        rw [← hw6] at hbn HB6 ⊢
        clear hw6
        have HX6 := Lib.hid ((hbn.block _ lX5).trans HX5.out)
        have lX6 := lt_row HX6.out
        have HY6 := Lib.hid ((hbn.block _ lY5).trans HY5.out)
        have lY6 := lt_row HY6.out
        have HBL6 := Lib.hid (HBL5.out.trans (hbn.mono HBL5.out.size))
        have hc0x6 := below_cell hbn hc0x5
        have hc3x6 := below_cell hbn hc3x5
        clear hbn hc0x5 hc3x5
        clear lX5 lY5
        go_wp2
        go_roundw
        case rel => exact ⟨j + 1, by go_num, by omega, by omega, HNX.out HNO.out, HB6.out⟩
        case measure => simp [intOf]; omega
      · skip
        go_wp2_with (first | (refine wpList_store_rowA rfl _ _ _ rfl w4.heap.size E1 rfl (by rw [HE1.out]; first | rfl | kernel_rfl) _ _ (heap_new _ _) HE1S.out (by rw [← HE1N.out]; rfl) HE1O.out ?_) | fail)
        intro u1 hu1
        have hb : Below w4.heap.size w4 u1 := by rw [hu1.out]; exact below_row ((Below.refl _ _).alloc (Nat.le_refl _) _) (Nat.le_refl _) _
        have HY5 : Hid (u1.heap[w4.heap.size]? = some (.cells E1 24 (0, 0))) := Lib.hid (by rw [hu1.out]; exact setRow_at (heap_new _ _))
        clear hu1
        obtain ⟨w5, hww⟩ : ∃ w', w' = u1 := ⟨_, rfl⟩
        rw [← hww] at hb HY5 ⊢
        clear hww
        have HB5 := Lib.hid (HB.out.trans (hb.mono HB.out.size))
        have HX5 := Lib.hid ((hb.block _ lX4).trans HX4.out)
        have lX5 := lt_row HX5.out
        have HBL5 := Lib.hid (HBL4.out.trans (hb.mono HBL4.out.size))
        have hc0x5 := below_cell hb hc0x4
        have hc3x5 := below_cell hb hc3x4
        clear hb hc0x4 hc3x4
        clear lX4
        have lY5 := lt_row HY5.out
        go_wp2_with fail
        refine wp_region_noPanic ?_
        refine Wr.region_K (S := (fun W => W.cell? ⟨B, 0, none⟩ = some (.string K) ∧ W.heap[w4.heap.size]? = some (.cells E1 24 (0, 0)))) (K := []) (by kernel_rfl) ?_
        change Wr.wpAnyK _ _ _ _ _ _ _ _ _ (World.drew w5)
        have hBL0 : Below w5.heap.size w5 (World.drew w5) := Bl.drew (Below.refl _ _)
        have hS0 : (World.drew w5).cell? ⟨B, 0, none⟩ = some (.string K) ∧ (World.drew w5).heap[w4.heap.size]? = some (.cells E1 24 (0, 0)) := ⟨below_cell hBL0 hc0x5, (hBL0.block _ (lt_row HY5.out)).trans HY5.out⟩
        refine Wr.wpAnyK_take (i := 0) (v := ?_) rfl (by kernel_rfl) (fun _ _ _ h => h) (Or.inl ⟨by rfl, ?_⟩) hS0 ?_
        rotate_left
        · intro wq hSw
          obtain ⟨q0, q1⟩ := hSw
          obtain ⟨qc1, qf1⟩ := row_facts q1
          go_simp
          rfl
        simp only [Act.put, sx1, sx2, sx3, sx4, sx5, sx6]
        refine Wr.wpAnyK_take (i := 2) (v := ?_) rfl (by kernel_rfl) (fun _ _ _ h => h) (Or.inl ⟨by rfl, ?_⟩) hS0 ?_
        rotate_left
        · intro wq hSw
          obtain ⟨q0, q1⟩ := hSw
          obtain ⟨qc1, qf1⟩ := row_facts q1
          go_simp
          rfl
        simp only [Act.put, sx1, sx2, sx3, sx4, sx5, sx6]
        refine Wr.wpAnyK_take (i := 3) (v := ?_) rfl (by kernel_rfl) (fun _ _ _ h => h) (Or.inl ⟨by rfl, ?_⟩) hS0 ?_
        rotate_left
        · intro wq hSw
          obtain ⟨q0, q1⟩ := hSw
          obtain ⟨qc1, qf1⟩ := row_facts q1
          go_simp
          rfl
        simp only [Act.put, sx1, sx2, sx3, sx4, sx5, sx6]
        refine Wr.wpAnyK_take (i := 4) (v := ?_) rfl (by kernel_rfl) (fun _ _ _ h => h) (Or.inl ⟨by rfl, ?_⟩) hS0 ?_
        rotate_left
        · intro wq hSw
          obtain ⟨q0, q1⟩ := hSw
          obtain ⟨qc1, qf1⟩ := row_facts q1
          go_simp
          rfl
        simp only [Act.put, sx1, sx2, sx3, sx4, sx5, sx6]
        refine Wr.wpAnyK_one (i := 1) (by kernel_rfl) ?_
        refine wpOp_call rfl (by rfl) (by go_simp; first | done | rfl | exact ⟨⟨rfl, rfl⟩, rfl⟩ | exact ⟨rfl, rfl⟩) ?_
        refine (HWD.out (World.drew w5)).mono ?_
        rintro e w6 ⟨rfl, hb_w6⟩
        have hBL1 : Below w5.heap.size w5 w6 := hBL0.trans (hb_w6.mono hBL0.size)
        have hS1 : w6.cell? ⟨B, 0, none⟩ = some (.string K) ∧ w6.heap[w4.heap.size]? = some (.cells E1 24 (0, 0)) := ⟨below_cell hBL1 hc0x5, (hBL1.block _ (lt_row HY5.out)).trans HY5.out⟩
        refine ⟨_, rfl, ?_, ?_⟩
        · exact hS1
        simp only [Act.put, sx1, sx2, sx3, sx4, sx5, sx6]
        refine Wr.wpAnyK_take (i := 5) (v := ?_) rfl (by kernel_rfl) (fun _ _ _ h => h) (Or.inl ⟨by rfl, ?_⟩) hS1 ?_
        rotate_left
        · intro wq hSw
          obtain ⟨q0, q1⟩ := hSw
          obtain ⟨qc1, qf1⟩ := row_facts q1
          go_simp
          rfl
        simp only [Act.put, sx1, sx2, sx3, sx4, sx5, sx6]
        refine Wr.wpAnyK_take (i := 6) (v := ?_) rfl (by kernel_rfl) (fun _ _ _ h => h) (Or.inl ⟨by rfl, ?_⟩) hS1 ?_
        rotate_left
        · intro wq hSw
          obtain ⟨q0, q1⟩ := hSw
          obtain ⟨qc1, qf1⟩ := row_facts q1
          go_simp
          rfl
        simp only [Act.put, sx1, sx2, sx3, sx4, sx5, sx6]
        refine Wr.wpAnyK_take (i := 7) (v := ?_) rfl (by kernel_rfl) (fun _ _ _ h => h) (Or.inl ⟨by rfl, ?_⟩) hS1 ?_
        rotate_left
        · intro wq hSw
          obtain ⟨q0, q1⟩ := hSw
          obtain ⟨qc1, qf1⟩ := row_facts q1
          go_simp
          rfl
        simp only [Act.put, sx1, sx2, sx3, sx4, sx5, sx6]
        refine Wr.wpAnyK_take (i := 8) (v := ?_) rfl (by kernel_rfl) (fun _ _ _ h => h) (Or.inl ⟨by rfl, ?_⟩) hS1 ?_
        rotate_left
        · intro wq hSw
          obtain ⟨q0, q1⟩ := hSw
          obtain ⟨qc1, qf1⟩ := row_facts q1
          go_simp
          rfl
        simp only [Act.put, sx1, sx2, sx3, sx4, sx5, sx6]
        refine Wr.wpAnyK_take (i := 9) (v := ?_) rfl (by kernel_rfl) (fun _ _ _ h => h) (Or.inl ⟨by rfl, ?_⟩) hS1 ?_
        rotate_left
        · intro wq hSw
          obtain ⟨q0, q1⟩ := hSw
          obtain ⟨qc1, qf1⟩ := row_facts q1
          go_simp
          rfl
        simp only [Act.put, sx1, sx2, sx3, sx4, sx5, sx6]
        refine Wr.wpAnyK_take (i := 10) (v := undef) rfl (by kernel_rfl) (fun _ _ _ h => h) (Or.inr ⟨by rfl, rfl⟩) hS1 ?_
        simp only [Act.put, sx1, sx2, sx3, sx4, sx5, sx6]
        refine Wr.wpAnyK_take (i := 11) (v := ?_) rfl (by kernel_rfl) (fun _ _ _ h => h) (Or.inl ⟨by rfl, ?_⟩) hS1 ?_
        rotate_left
        · intro wq hSw
          obtain ⟨q0, q1⟩ := hSw
          obtain ⟨qc1, qf1⟩ := row_facts q1
          go_simp
          rfl
        simp only [Act.put, sx1, sx2, sx3, sx4, sx5, sx6]
        refine Wr.wpAnyK_take (i := 12) (v := ?_) rfl (by kernel_rfl) (fun _ _ _ h => h) (Or.inl ⟨by rfl, ?_⟩) hS1 ?_
        rotate_left
        · intro wq hSw
          obtain ⟨q0, q1⟩ := hSw
          obtain ⟨qc1, qf1⟩ := row_facts q1
          go_simp
          rfl
        simp only [Act.put, sx1, sx2, sx3, sx4, sx5, sx6]
        refine Wr.wpAnyK_take (i := 13) (v := undef) rfl (by kernel_rfl) (fun _ _ _ h => h) (Or.inr ⟨by rfl, rfl⟩) hS1 ?_
        simp only [Act.put, sx1, sx2, sx3, sx4, sx5, sx6]
        refine Wr.wpAnyK_take (i := 14) (v := undef) rfl (by kernel_rfl) (fun _ _ _ h => h) (Or.inr ⟨by rfl, rfl⟩) hS1 ?_
        simp only [Act.put, sx1, sx2, sx3, sx4, sx5, sx6]
        refine Wr.wpAnyK_take (i := 15) (v := undef) rfl (by kernel_rfl) (fun _ _ _ h => h) (Or.inr ⟨by rfl, rfl⟩) hS1 ?_
        simp only [Act.put, sx1, sx2, sx3, sx4, sx5, sx6]
        refine Wr.wpAnyK_take (i := 16) (v := ?_) rfl (by kernel_rfl) (fun _ _ _ h => h) (Or.inl ⟨by rfl, ?_⟩) hS1 ?_
        rotate_left
        · intro wq hSw
          obtain ⟨q0, q1⟩ := hSw
          obtain ⟨qc1, qf1⟩ := row_facts q1
          go_simp
          rfl
        simp only [Act.put, sx1, sx2, sx3, sx4, sx5, sx6]
        refine Wr.wpAnyK_done (by kernel_rfl) (NoPanic.normal ?_) _
        have HB6 := Lib.hid (HB5.out.trans (hBL1.mono HB5.out.size))
        have hbn := hBL1
        obtain ⟨w8, hw8⟩ : ∃ x, x = w6 := ⟨_, rfl⟩
        rw [← hw8] at hbn HB6 ⊢
        clear hw8 hBL0 hS0 hBL1 hS1
        obtain ⟨w6', hw6⟩ : ∃ x, x = w8 := ⟨_, rfl⟩
        rw [← hw6] at hbn HB6 ⊢
        clear hw6
        have HX6 := Lib.hid ((hbn.block _ lX5).trans HX5.out)
        have lX6 := lt_row HX6.out
        have HY6 := Lib.hid ((hbn.block _ lY5).trans HY5.out)
        have lY6 := lt_row HY6.out
        have HBL6 := Lib.hid (HBL5.out.trans (hbn.mono HBL5.out.size))
        have hc0x6 := below_cell hbn hc0x5
        have hc3x6 := below_cell hbn hc3x5
        clear hbn hc0x5 hc3x5
        clear lX5 lY5
        go_wp2
        go_roundw
        case rel => exact ⟨j + 1, by go_num, by omega, by omega, HNX.out (fun _ h => by cases h), HB6.out⟩
        case measure => simp [intOf]; omega
      · skip
        go_wp2_with (first | (refine wpList_store_rowA rfl _ _ _ rfl w4.heap.size E1 rfl (by rw [HE1.out]; first | rfl | kernel_rfl) _ _ (heap_new _ _) HE1S.out (by rw [← HE1N.out]; rfl) HE1O.out ?_) | fail)
        intro u1 hu1
        have hb : Below w4.heap.size w4 u1 := by rw [hu1.out]; exact below_row ((Below.refl _ _).alloc (Nat.le_refl _) _) (Nat.le_refl _) _
        have HY5 : Hid (u1.heap[w4.heap.size]? = some (.cells E1 24 (0, 0))) := Lib.hid (by rw [hu1.out]; exact setRow_at (heap_new _ _))
        clear hu1
        obtain ⟨w5, hww⟩ : ∃ w', w' = u1 := ⟨_, rfl⟩
        rw [← hww] at hb HY5 ⊢
        clear hww
        have HB5 := Lib.hid (HB.out.trans (hb.mono HB.out.size))
        have HX5 := Lib.hid ((hb.block _ lX4).trans HX4.out)
        have lX5 := lt_row HX5.out
        have HBL5 := Lib.hid (HBL4.out.trans (hb.mono HBL4.out.size))
        have hc0x5 := below_cell hb hc0x4
        have hc3x5 := below_cell hb hc3x4
        clear hb hc0x4 hc3x4
        clear lX4
        have lY5 := lt_row HY5.out
        go_wp2_with fail
        refine wp_region_noPanic ?_
        refine Wr.region_K (S := (fun W => W.cell? ⟨B, 0, none⟩ = some (.string K) ∧ W.heap[w4.heap.size]? = some (.cells E1 24 (0, 0)))) (K := []) (by kernel_rfl) ?_
        change Wr.wpAnyK _ _ _ _ _ _ _ _ _ (World.drew w5)
        have hBL0 : Below w5.heap.size w5 (World.drew w5) := Bl.drew (Below.refl _ _)
        have hS0 : (World.drew w5).cell? ⟨B, 0, none⟩ = some (.string K) ∧ (World.drew w5).heap[w4.heap.size]? = some (.cells E1 24 (0, 0)) := ⟨below_cell hBL0 hc0x5, (hBL0.block _ (lt_row HY5.out)).trans HY5.out⟩
        refine Wr.wpAnyK_take (i := 0) (v := ?_) rfl (by kernel_rfl) (fun _ _ _ h => h) (Or.inl ⟨by rfl, ?_⟩) hS0 ?_
        rotate_left
        · intro wq hSw
          obtain ⟨q0, q1⟩ := hSw
          obtain ⟨qc1, qf1⟩ := row_facts q1
          go_simp
          rfl
        simp only [Act.put, sx1, sx2, sx3, sx4, sx5, sx6]
        refine Wr.wpAnyK_take (i := 2) (v := ?_) rfl (by kernel_rfl) (fun _ _ _ h => h) (Or.inl ⟨by rfl, ?_⟩) hS0 ?_
        rotate_left
        · intro wq hSw
          obtain ⟨q0, q1⟩ := hSw
          obtain ⟨qc1, qf1⟩ := row_facts q1
          go_simp
          rfl
        simp only [Act.put, sx1, sx2, sx3, sx4, sx5, sx6]
        refine Wr.wpAnyK_take (i := 3) (v := ?_) rfl (by kernel_rfl) (fun _ _ _ h => h) (Or.inl ⟨by rfl, ?_⟩) hS0 ?_
        rotate_left
        · intro wq hSw
          obtain ⟨q0, q1⟩ := hSw
          obtain ⟨qc1, qf1⟩ := row_facts q1
          go_simp
          rfl
        simp only [Act.put, sx1, sx2, sx3, sx4, sx5, sx6]
        refine Wr.wpAnyK_take (i := 4) (v := ?_) rfl (by kernel_rfl) (fun _ _ _ h => h) (Or.inl ⟨by rfl, ?_⟩) hS0 ?_
        rotate_left
        · intro wq hSw
          obtain ⟨q0, q1⟩ := hSw
          obtain ⟨qc1, qf1⟩ := row_facts q1
          go_simp
          rfl
        simp only [Act.put, sx1, sx2, sx3, sx4, sx5, sx6]
        refine Wr.wpAnyK_one (i := 1) (by kernel_rfl) ?_
        refine wpOp_call rfl (by rfl) (by go_simp; first | done | rfl | exact ⟨⟨rfl, rfl⟩, rfl⟩ | exact ⟨rfl, rfl⟩) ?_
        refine (HWD.out (World.drew w5)).mono ?_
        rintro e w6 ⟨rfl, hb_w6⟩
        have hBL1 : Below w5.heap.size w5 w6 := hBL0.trans (hb_w6.mono hBL0.size)
        have hS1 : w6.cell? ⟨B, 0, none⟩ = some (.string K) ∧ w6.heap[w4.heap.size]? = some (.cells E1 24 (0, 0)) := ⟨below_cell hBL1 hc0x5, (hBL1.block _ (lt_row HY5.out)).trans HY5.out⟩
        refine ⟨_, rfl, ?_, ?_⟩
        · exact hS1
        simp only [Act.put, sx1, sx2, sx3, sx4, sx5, sx6]
        refine Wr.wpAnyK_take (i := 5) (v := ?_) rfl (by kernel_rfl) (fun _ _ _ h => h) (Or.inl ⟨by rfl, ?_⟩) hS1 ?_
        rotate_left
        · intro wq hSw
          obtain ⟨q0, q1⟩ := hSw
          obtain ⟨qc1, qf1⟩ := row_facts q1
          go_simp
          rfl
        simp only [Act.put, sx1, sx2, sx3, sx4, sx5, sx6]
        refine Wr.wpAnyK_take (i := 6) (v := ?_) rfl (by kernel_rfl) (fun _ _ _ h => h) (Or.inl ⟨by rfl, ?_⟩) hS1 ?_
        rotate_left
        · intro wq hSw
          obtain ⟨q0, q1⟩ := hSw
          obtain ⟨qc1, qf1⟩ := row_facts q1
          go_simp
          rfl
        simp only [Act.put, sx1, sx2, sx3, sx4, sx5, sx6]
        refine Wr.wpAnyK_take (i := 7) (v := ?_) rfl (by kernel_rfl) (fun _ _ _ h => h) (Or.inl ⟨by rfl, ?_⟩) hS1 ?_
        rotate_left
        · intro wq hSw
          obtain ⟨q0, q1⟩ := hSw
          obtain ⟨qc1, qf1⟩ := row_facts q1
          go_simp
          rfl
        simp only [Act.put, sx1, sx2, sx3, sx4, sx5, sx6]
        refine Wr.wpAnyK_take (i := 8) (v := ?_) rfl (by kernel_rfl) (fun _ _ _ h => h) (Or.inl ⟨by rfl, ?_⟩) hS1 ?_
        rotate_left
        · intro wq hSw
          obtain ⟨q0, q1⟩ := hSw
          obtain ⟨qc1, qf1⟩ := row_facts q1
          go_simp
          rfl
        simp only [Act.put, sx1, sx2, sx3, sx4, sx5, sx6]
        refine Wr.wpAnyK_take (i := 9) (v := ?_) rfl (by kernel_rfl) (fun _ _ _ h => h) (Or.inl ⟨by rfl, ?_⟩) hS1 ?_
        rotate_left
        · intro wq hSw
          obtain ⟨q0, q1⟩ := hSw
          obtain ⟨qc1, qf1⟩ := row_facts q1
          go_simp
          rfl
        simp only [Act.put, sx1, sx2, sx3, sx4, sx5, sx6]
        refine Wr.wpAnyK_take (i := 10) (v := ?_) rfl (by kernel_rfl) (fun _ _ _ h => h) (Or.inl ⟨by rfl, ?_⟩) hS1 ?_
        rotate_left
        · intro wq hSw
          obtain ⟨q0, q1⟩ := hSw
          obtain ⟨qc1, qf1⟩ := row_facts q1
          go_simp
          rfl
        simp only [Act.put, sx1, sx2, sx3, sx4, sx5, sx6]
        refine Wr.wpAnyK_take (i := 11) (v := ?_) rfl (by kernel_rfl) (fun _ _ _ h => h) (Or.inl ⟨by rfl, ?_⟩) hS1 ?_
        rotate_left
        · intro wq hSw
          obtain ⟨q0, q1⟩ := hSw
          obtain ⟨qc1, qf1⟩ := row_facts q1
          go_simp
          rfl
        simp only [Act.put, sx1, sx2, sx3, sx4, sx5, sx6]
        refine Wr.wpAnyK_take (i := 12) (v := ?_) rfl (by kernel_rfl) (fun _ _ _ h => h) (Or.inl ⟨by rfl, ?_⟩) hS1 ?_
        rotate_left
        · intro wq hSw
          obtain ⟨q0, q1⟩ := hSw
          obtain ⟨qc1, qf1⟩ := row_facts q1
          go_simp
          rfl
        simp only [Act.put, sx1, sx2, sx3, sx4, sx5, sx6]
        refine Wr.wpAnyK_take (i := 13) (v := undef) rfl (by kernel_rfl) (fun _ _ _ h => h) (Or.inr ⟨by rfl, rfl⟩) hS1 ?_
        simp only [Act.put, sx1, sx2, sx3, sx4, sx5, sx6]
        refine Wr.wpAnyK_take (i := 14) (v := undef) rfl (by kernel_rfl) (fun _ _ _ h => h) (Or.inr ⟨by rfl, rfl⟩) hS1 ?_
        simp only [Act.put, sx1, sx2, sx3, sx4, sx5, sx6]
        refine Wr.wpAnyK_take (i := 15) (v := undef) rfl (by kernel_rfl) (fun _ _ _ h => h) (Or.inr ⟨by rfl, rfl⟩) hS1 ?_
        simp only [Act.put, sx1, sx2, sx3, sx4, sx5, sx6]
        refine Wr.wpAnyK_take (i := 16) (v := ?_) rfl (by kernel_rfl) (fun _ _ _ h => h) (Or.inl ⟨by rfl, ?_⟩) hS1 ?_
        rotate_left
        · intro wq hSw
          obtain ⟨q0, q1⟩ := hSw
          obtain ⟨qc1, qf1⟩ := row_facts q1
          go_simp
          rfl
        simp only [Act.put, sx1, sx2, sx3, sx4, sx5, sx6]
        refine Wr.wpAnyK_done (by kernel_rfl) (NoPanic.normal ?_) _
        have HB6 := Lib.hid (HB5.out.trans (hBL1.mono HB5.out.size))
        have hbn := hBL1
        obtain ⟨w8, hw8⟩ : ∃ x, x = w6 := ⟨_, rfl⟩
        rw [← hw8] at hbn HB6 ⊢
        clear hw8 hBL0 hS0 hBL1 hS1
        obtain ⟨w6', hw6⟩ : ∃ x, x = w8 := ⟨_, rfl⟩
        rw [← hw6] at hbn HB6 ⊢
        clear hw6
        have HX6 := Lib.hid ((hbn.block _ lX5).trans HX5.out)
        have lX6 := lt_row HX6.out
        have HY6 := Lib.hid ((hbn.block _ lY5).trans HY5.out)
        have lY6 := lt_row HY6.out
        have HBL6 := Lib.hid (HBL5.out.trans (hbn.mono HBL5.out.size))
        have hc0x6 := below_cell hbn hc0x5
        have hc3x6 := below_cell hbn hc3x5
        clear hbn hc0x5 hc3x5
        clear lX5 lY5
        go_wp2
        go_roundw
        case rel => exact ⟨j + 1, by go_num, by omega, by omega, HNX.out (fun _ _ h => by cases h), HB6.out⟩
        case measure => simp [intOf]; omega
      · skip
        go_wp2_with (first | (refine wpList_store_rowA rfl _ _ _ rfl w4.heap.size E1 rfl (by rw [HE1.out]; first | rfl | kernel_rfl) _ _ (heap_new _ _) HE1S.out (by rw [← HE1N.out]; rfl) HE1O.out ?_) | fail)
        intro u1 hu1
        have hb : Below w4.heap.size w4 u1 := by rw [hu1.out]; exact below_row ((Below.refl _ _).alloc (Nat.le_refl _) _) (Nat.le_refl _) _
        have HY5 : Hid (u1.heap[w4.heap.size]? = some (.cells E1 24 (0, 0))) := Lib.hid (by rw [hu1.out]; exact setRow_at (heap_new _ _))
        clear hu1
        obtain ⟨w5, hww⟩ : ∃ w', w' = u1 := ⟨_, rfl⟩
        rw [← hww] at hb HY5 ⊢
        clear hww
        have HB5 := Lib.hid (HB.out.trans (hb.mono HB.out.size))
        have HX5 := Lib.hid ((hb.block _ lX4).trans HX4.out)
        have lX5 := lt_row HX5.out
        have HBL5 := Lib.hid (HBL4.out.trans (hb.mono HBL4.out.size))
        have hc0x5 := below_cell hb hc0x4
        have hc3x5 := below_cell hb hc3x4
        clear hb hc0x4 hc3x4
        clear lX4
        have lY5 := lt_row HY5.out
        go_wp2_with fail
        refine wp_region_noPanic ?_
        refine Wr.region_K (S := (fun W => W.cell? ⟨B, 0, none⟩ = some (.string K) ∧ W.heap[w4.heap.size]? = some (.cells E1 24 (0, 0)))) (K := []) (by kernel_rfl) ?_
        change Wr.wpAnyK _ _ _ _ _ _ _ _ _ (World.drew w5)
        have hBL0 : Below w5.heap.size w5 (World.drew w5) := Bl.drew (Below.refl _ _)
        have hS0 : (World.drew w5).cell? ⟨B, 0, none⟩ = some (.string K) ∧ (World.drew w5).heap[w4.heap.size]? = some (.cells E1 24 (0, 0)) := ⟨below_cell hBL0 hc0x5, (hBL0.block _ (lt_row HY5.out)).trans HY5.out⟩
        refine Wr.wpAnyK_take (i := 0) (v := ?_) rfl (by kernel_rfl) (fun _ _ _ h => h) (Or.inl ⟨by rfl, ?_⟩) hS0 ?_
        rotate_left
        · intro wq hSw
          obtain ⟨q0, q1⟩ := hSw
          obtain ⟨qc1, qf1⟩ := row_facts q1
          go_simp
          rfl
        simp only [Act.put, sx1, sx2, sx3, sx4, sx5, sx6]
        refine Wr.wpAnyK_take (i := 2) (v := ?_) rfl (by kernel_rfl) (fun _ _ _ h => h) (Or.inl ⟨by rfl, ?_⟩) hS0 ?_
        rotate_left
        · intro wq hSw
          obtain ⟨q0, q1⟩ := hSw
          obtain ⟨qc1, qf1⟩ := row_facts q1
          go_simp
          rfl
        simp only [Act.put, sx1, sx2, sx3, sx4, sx5, sx6]
        refine Wr.wpAnyK_take (i := 3) (v := ?_) rfl (by kernel_rfl) (fun _ _ _ h => h) (Or.inl ⟨by rfl, ?_⟩) hS0 ?_
        rotate_left
        · intro wq hSw
          obtain ⟨q0, q1⟩ := hSw
          obtain ⟨qc1, qf1⟩ := row_facts q1
          go_simp
          rfl
        simp only [Act.put, sx1, sx2, sx3, sx4, sx5, sx6]
        refine Wr.wpAnyK_take (i := 4) (v := ?_) rfl (by kernel_rfl) (fun _ _ _ h => h) (Or.inl ⟨by rfl, ?_⟩) hS0 ?_
        rotate_left
        · intro wq hSw
          obtain ⟨q0, q1⟩ := hSw
          obtain ⟨qc1, qf1⟩ := row_facts q1
          go_simp
          rfl
        simp only [Act.put, sx1, sx2, sx3, sx4, sx5, sx6]
        refine Wr.wpAnyK_one (i := 1) (by kernel_rfl) ?_
        refine wpOp_call rfl (by rfl) (by go_simp; first | done | rfl | exact ⟨⟨rfl, rfl⟩, rfl⟩ | exact ⟨rfl, rfl⟩) ?_
        refine (HWD.out (World.drew w5)).mono ?_
        rintro e w6 ⟨rfl, hb_w6⟩
        have hBL1 : Below w5.heap.size w5 w6 := hBL0.trans (hb_w6.mono hBL0.size)
        have hS1 : w6.cell? ⟨B, 0, none⟩ = some (.string K) ∧ w6.heap[w4.heap.size]? = some (.cells E1 24 (0, 0)) := ⟨below_cell hBL1 hc0x5, (hBL1.block _ (lt_row HY5.out)).trans HY5.out⟩
        refine ⟨_, rfl, ?_, ?_⟩
        · exact hS1
        simp only [Act.put, sx1, sx2, sx3, sx4, sx5, sx6]
        refine Wr.wpAnyK_take (i := 5) (v := ?_) rfl (by kernel_rfl) (fun _ _ _ h => h) (Or.inl ⟨by rfl, ?_⟩) hS1 ?_
        rotate_left
        · intro wq hSw
          obtain ⟨q0, q1⟩ := hSw
          obtain ⟨qc1, qf1⟩ := row_facts q1
          go_simp
          rfl
        simp only [Act.put, sx1, sx2, sx3, sx4, sx5, sx6]
        refine Wr.wpAnyK_take (i := 6) (v := ?_) rfl (by kernel_rfl) (fun _ _ _ h => h) (Or.inl ⟨by rfl, ?_⟩) hS1 ?_
        rotate_left
        · intro wq hSw
          obtain ⟨q0, q1⟩ := hSw
          obtain ⟨qc1, qf1⟩ := row_facts q1
          go_simp
          rfl
        simp only [Act.put, sx1, sx2, sx3, sx4, sx5, sx6]
        refine Wr.wpAnyK_take (i := 7) (v := ?_) rfl (by kernel_rfl) (fun _ _ _ h => h) (Or.inl ⟨by rfl, ?_⟩) hS1 ?_
        rotate_left
        · intro wq hSw
          obtain ⟨q0, q1⟩ := hSw
          obtain ⟨qc1, qf1⟩ := row_facts q1
          go_simp
          rfl
        simp only [Act.put, sx1, sx2, sx3, sx4, sx5, sx6]
        refine Wr.wpAnyK_take (i := 8) (v := ?_) rfl (by kernel_rfl) (fun _ _ _ h => h) (Or.inl ⟨by rfl, ?_⟩) hS1 ?_
        rotate_left
        · intro wq hSw
          obtain ⟨q0, q1⟩ := hSw
          obtain ⟨qc1, qf1⟩ := row_facts q1
          go_simp
          rfl
        simp only [Act.put, sx1, sx2, sx3, sx4, sx5, sx6]
        refine Wr.wpAnyK_take (i := 9) (v := ?_) rfl (by kernel_rfl) (fun _ _ _ h => h) (Or.inl ⟨by rfl, ?_⟩) hS1 ?_
        rotate_left
        · intro wq hSw
          obtain ⟨q0, q1⟩ := hSw
          obtain ⟨qc1, qf1⟩ := row_facts q1
          go_simp
          rfl
        simp only [Act.put, sx1, sx2, sx3, sx4, sx5, sx6]
        refine Wr.wpAnyK_take (i := 10) (v := ?_) rfl (by kernel_rfl) (fun _ _ _ h => h) (Or.inl ⟨by rfl, ?_⟩) hS1 ?_
        rotate_left
        · intro wq hSw
          obtain ⟨q0, q1⟩ := hSw
          obtain ⟨qc1, qf1⟩ := row_facts q1
          go_simp
          rfl
        simp only [Act.put, sx1, sx2, sx3, sx4, sx5, sx6]
        refine Wr.wpAnyK_take (i := 11) (v := ?_) rfl (by kernel_rfl) (fun _ _ _ h => h) (Or.inl ⟨by rfl, ?_⟩) hS1 ?_
        rotate_left
        · intro wq hSw
          obtain ⟨q0, q1⟩ := hSw
          obtain ⟨qc1, qf1⟩ := row_facts q1
          go_simp
          rfl
        simp only [Act.put, sx1, sx2, sx3, sx4, sx5, sx6]
        refine Wr.wpAnyK_take (i := 12) (v := ?_) rfl (by kernel_rfl) (fun _ _ _ h => h) (Or.inl ⟨by rfl, ?_⟩) hS1 ?_
        rotate_left
        · intro wq hSw
          obtain ⟨q0, q1⟩ := hSw
          obtain ⟨qc1, qf1⟩ := row_facts q1
          go_simp
          rfl
        simp only [Act.put, sx1, sx2, sx3, sx4, sx5, sx6]
        refine Wr.wpAnyK_take (i := 13) (v := .agg E1) rfl (by kernel_rfl) (fun _ _ _ h => h) (Or.inl ⟨by rfl, fun wq hSw => WireJ.exec_load_row _ _ rfl w4.heap.size rfl _ E1 (0, 0) _ hSw.2 Tryz.underlying24 rfl HE1S.out⟩) hS1 ?_
        simp only [Act.put, sx1, sx2, sx3, sx4, sx5, sx6]
        refine Wr.wpAnyK_one (i := 14) (by kernel_rfl) ?_
        refine wpOp_call rfl (by rfl) (by go_simp; first | done | rfl | exact ⟨⟨rfl, rfl⟩, rfl⟩ | exact ⟨rfl, rfl⟩) ?_
        refine (HC.out w6).mono ?_
        rintro e w7 ⟨rfl, hb_w7⟩
        have hBL2 : Below w5.heap.size w5 w7 := hBL1.trans (hb_w7.mono hBL1.size)
        have hS2 : w7.cell? ⟨B, 0, none⟩ = some (.string K) ∧ w7.heap[w4.heap.size]? = some (.cells E1 24 (0, 0)) := ⟨below_cell hBL2 hc0x5, (hBL2.block _ (lt_row HY5.out)).trans HY5.out⟩
        refine ⟨_, rfl, ?_, ?_⟩
        · exact hS2
        simp only [Act.put, sx1, sx2, sx3, sx4, sx5, sx6]
        refine Wr.wpAnyK_take (i := 15) (v := ?_) rfl (by kernel_rfl) (fun _ _ _ h => h) (Or.inl ⟨by rfl, ?_⟩) hS2 ?_
        rotate_left
        · intro wq hSw
          obtain ⟨q0, q1⟩ := hSw
          obtain ⟨qc1, qf1⟩ := row_facts q1
          go_simp
          rfl
        simp only [Act.put, sx1, sx2, sx3, sx4, sx5, sx6]
        refine Wr.wpAnyK_take (i := 16) (v := ?_) rfl (by kernel_rfl) (fun _ _ _ h => h) (Or.inl ⟨by rfl, ?_⟩) hS2 ?_
        rotate_left
        · intro wq hSw
          obtain ⟨q0, q1⟩ := hSw
          obtain ⟨qc1, qf1⟩ := row_facts q1
          go_simp
          rfl
        simp only [Act.put, sx1, sx2, sx3, sx4, sx5, sx6]
        refine Wr.wpAnyK_done (by kernel_rfl) (NoPanic.normal ?_) _
        have HB6 := Lib.hid (HB5.out.trans (hBL2.mono HB5.out.size))
        have hbn := hBL2
        obtain ⟨w8, hw8⟩ : ∃ x, x = w7 := ⟨_, rfl⟩
        rw [← hw8] at hbn HB6 ⊢
        clear hw8 hBL0 hS0 hBL1 hS1 hBL2 hS2
        obtain ⟨w6', hw6⟩ : ∃ x, x = w8 := ⟨_, rfl⟩
        rw [← hw6] at hbn HB6 ⊢
        clear hw6
        have HX6 := Lib.hid ((hbn.block _ lX5).trans HX5.out)
        have lX6 := lt_row HX6.out
        have HY6 := Lib.hid ((hbn.block _ lY5).trans HY5.out)
        have lY6 := lt_row HY6.out
        have HBL6 := Lib.hid (HBL5.out.trans (hbn.mono HBL5.out.size))
        have hc0x6 := below_cell hbn hc0x5
        have hc3x6 := below_cell hbn hc3x5
        clear hbn hc0x5 hc3x5
        clear lX5 lY5
        go_wp2
        go_roundw
        case rel => exact ⟨j + 1, by go_num, by omega, by omega, HNX.out (fun _ _ _ h => by rw [h] at hz; cases hz), HB6.out⟩
        case measure => simp [intOf]; omega
      · skip
        go_wp2_with (first | (refine wpList_store_rowA rfl _ _ _ rfl w4.heap.size E1 rfl (by rw [HE1.out]; first | rfl | kernel_rfl) _ _ (heap_new _ _) HE1S.out (by rw [← HE1N.out]; rfl) HE1O.out ?_) | fail)
        intro u1 hu1
        have hb : Below w4.heap.size w4 u1 := by rw [hu1.out]; exact below_row ((Below.refl _ _).alloc (Nat.le_refl _) _) (Nat.le_refl _) _
        have HY5 : Hid (u1.heap[w4.heap.size]? = some (.cells E1 24 (0, 0))) := Lib.hid (by rw [hu1.out]; exact setRow_at (heap_new _ _))
        clear hu1
        obtain ⟨w5, hww⟩ : ∃ w', w' = u1 := ⟨_, rfl⟩
        rw [← hww] at hb HY5 ⊢
        clear hww
        have HB5 := Lib.hid (HB.out.trans (hb.mono HB.out.size))
        have HX5 := Lib.hid ((hb.block _ lX4).trans HX4.out)
        have lX5 := lt_row HX5.out
        have HBL5 := Lib.hid (HBL4.out.trans (hb.mono HBL4.out.size))
        have hc0x5 := below_cell hb hc0x4
        have hc3x5 := below_cell hb hc3x4
        clear hb hc0x4 hc3x4
        clear lX4
        have lY5 := lt_row HY5.out
        go_wp2_with fail
        refine wp_region_noPanic ?_
        refine Wr.region_K (S := (fun W => W.cell? ⟨B, 0, none⟩ = some (.string K) ∧ W.heap[w4.heap.size]? = some (.cells E1 24 (0, 0)))) (K := []) (by kernel_rfl) ?_
        change Wr.wpAnyK _ _ _ _ _ _ _ _ _ (World.drew w5)
        have hBL0 : Below w5.heap.size w5 (World.drew w5) := Bl.drew (Below.refl _ _)
        have hS0 : (World.drew w5).cell? ⟨B, 0, none⟩ = some (.string K) ∧ (World.drew w5).heap[w4.heap.size]? = some (.cells E1 24 (0, 0)) := ⟨below_cell hBL0 hc0x5, (hBL0.block _ (lt_row HY5.out)).trans HY5.out⟩
        refine Wr.wpAnyK_take (i := 0) (v := ?_) rfl (by kernel_rfl) (fun _ _ _ h => h) (Or.inl ⟨by rfl, ?_⟩) hS0 ?_
        rotate_left
        · intro wq hSw
          obtain ⟨q0, q1⟩ := hSw
          obtain ⟨qc1, qf1⟩ := row_facts q1
          go_simp
          rfl
        simp only [Act.put, sx1, sx2, sx3, sx4, sx5, sx6]
        refine Wr.wpAnyK_take (i := 2) (v := ?_) rfl (by kernel_rfl) (fun _ _ _ h => h) (Or.inl ⟨by rfl, ?_⟩) hS0 ?_
        rotate_left
        · intro wq hSw
          obtain ⟨q0, q1⟩ := hSw
          obtain ⟨qc1, qf1⟩ := row_facts q1
          go_simp
          rfl
        simp only [Act.put, sx1, sx2, sx3, sx4, sx5, sx6]
        refine Wr.wpAnyK_take (i := 3) (v := ?_) rfl (by kernel_rfl) (fun _ _ _ h => h) (Or.inl ⟨by rfl, ?_⟩) hS0 ?_
        rotate_left
        · intro wq hSw
          obtain ⟨q0, q1⟩ := hSw
          obtain ⟨qc1, qf1⟩ := row_facts q1
          go_simp
          rfl
        simp only [Act.put, sx1, sx2, sx3, sx4, sx5, sx6]
        refine Wr.wpAnyK_take (i := 4) (v := ?_) rfl (by kernel_rfl) (fun _ _ _ h => h) (Or.inl ⟨by rfl, ?_⟩) hS0 ?_
        rotate_left
        · intro wq hSw
          obtain ⟨q0, q1⟩ := hSw
          obtain ⟨qc1, qf1⟩ := row_facts q1
          go_simp
          rfl
        simp only [Act.put, sx1, sx2, sx3, sx4, sx5, sx6]
        refine Wr.wpAnyK_one (i := 1) (by kernel_rfl) ?_
        refine wpOp_call rfl (by rfl) (by go_simp; first | done | rfl | exact ⟨⟨rfl, rfl⟩, rfl⟩ | exact ⟨rfl, rfl⟩) ?_
        refine (HWD.out (World.drew w5)).mono ?_
        rintro e w6 ⟨rfl, hb_w6⟩
        have hBL1 : Below w5.heap.size w5 w6 := hBL0.trans (hb_w6.mono hBL0.size)
        have hS1 : w6.cell? ⟨B, 0, none⟩ = some (.string K) ∧ w6.heap[w4.heap.size]? = some (.cells E1 24 (0, 0)) := ⟨below_cell hBL1 hc0x5, (hBL1.block _ (lt_row HY5.out)).trans HY5.out⟩
        refine ⟨_, rfl, ?_, ?_⟩
        · exact hS1
        simp only [Act.put, sx1, sx2, sx3, sx4, sx5, sx6]
        refine Wr.wpAnyK_take (i := 5) (v := ?_) rfl (by kernel_rfl) (fun _ _ _ h => h) (Or.inl ⟨by rfl, ?_⟩) hS1 ?_
        rotate_left
        · intro wq hSw
          obtain ⟨q0, q1⟩ := hSw
          obtain ⟨qc1, qf1⟩ := row_facts q1
          go_simp
          rfl
        simp only [Act.put, sx1, sx2, sx3, sx4, sx5, sx6]
        refine Wr.wpAnyK_take (i := 6) (v := ?_) rfl (by kernel_rfl) (fun _ _ _ h => h) (Or.inl ⟨by rfl, ?_⟩) hS1 ?_
        rotate_left
        · intro wq hSw
          obtain ⟨q0, q1⟩ := hSw
          obtain ⟨qc1, qf1⟩ := row_facts q1
          go_simp
          rfl
        simp only [Act.put, sx1, sx2, sx3, sx4, sx5, sx6]
        refine Wr.wpAnyK_take (i := 7) (v := ?_) rfl (by kernel_rfl) (fun _ _ _ h => h) (Or.inl ⟨by rfl, ?_⟩) hS1 ?_
        rotate_left
        · intro wq hSw
          obtain ⟨q0, q1⟩ := hSw
          obtain ⟨qc1, qf1⟩ := row_facts q1
          go_simp
          rfl
        simp only [Act.put, sx1, sx2, sx3, sx4, sx5, sx6]
        refine Wr.wpAnyK_take (i := 8) (v := ?_) rfl (by kernel_rfl) (fun _ _ _ h => h) (Or.inl ⟨by rfl, ?_⟩) hS1 ?_
        rotate_left
        · intro wq hSw
          obtain ⟨q0, q1⟩ := hSw
          obtain ⟨qc1, qf1⟩ := row_facts q1
          go_simp
          rfl
        simp only [Act.put, sx1, sx2, sx3, sx4, sx5, sx6]
        refine Wr.wpAnyK_take (i := 9) (v := ?_) rfl (by kernel_rfl) (fun _ _ _ h => h) (Or.inl ⟨by rfl, ?_⟩) hS1 ?_
        rotate_left
        · intro wq hSw
          obtain ⟨q0, q1⟩ := hSw
          obtain ⟨qc1, qf1⟩ := row_facts q1
          go_simp
          rfl
        simp only [Act.put, sx1, sx2, sx3, sx4, sx5, sx6]
        refine Wr.wpAnyK_take (i := 10) (v := ?_) rfl (by kernel_rfl) (fun _ _ _ h => h) (Or.inl ⟨by rfl, ?_⟩) hS1 ?_
        rotate_left
        · intro wq hSw
          obtain ⟨q0, q1⟩ := hSw
          obtain ⟨qc1, qf1⟩ := row_facts q1
          go_simp
          rfl
        simp only [Act.put, sx1, sx2, sx3, sx4, sx5, sx6]
        refine Wr.wpAnyK_take (i := 11) (v := ?_) rfl (by kernel_rfl) (fun _ _ _ h => h) (Or.inl ⟨by rfl, ?_⟩) hS1 ?_
        rotate_left
        · intro wq hSw
          obtain ⟨q0, q1⟩ := hSw
          obtain ⟨qc1, qf1⟩ := row_facts q1
          go_simp
          rfl
        simp only [Act.put, sx1, sx2, sx3, sx4, sx5, sx6]
        refine Wr.wpAnyK_take (i := 12) (v := ?_) rfl (by kernel_rfl) (fun _ _ _ h => h) (Or.inl ⟨by rfl, ?_⟩) hS1 ?_
        rotate_left
        · intro wq hSw
          obtain ⟨q0, q1⟩ := hSw
          obtain ⟨qc1, qf1⟩ := row_facts q1
          go_simp
          rfl
        simp only [Act.put, sx1, sx2, sx3, sx4, sx5, sx6]
        refine Wr.wpAnyK_take (i := 13) (v := .agg E1) rfl (by kernel_rfl) (fun _ _ _ h => h) (Or.inl ⟨by rfl, fun wq hSw => WireJ.exec_load_row _ _ rfl w4.heap.size rfl _ E1 (0, 0) _ hSw.2 Tryz.underlying24 rfl HE1S.out⟩) hS1 ?_
        simp only [Act.put, sx1, sx2, sx3, sx4, sx5, sx6]
        refine Wr.wpAnyK_one (i := 14) (by kernel_rfl) ?_
        refine wpOp_call rfl (by rfl) (by go_simp; first | done | rfl | exact ⟨⟨rfl, rfl⟩, rfl⟩ | exact ⟨rfl, rfl⟩) ?_
        refine (HC.out w6).mono ?_
        rintro e w7 ⟨rfl, hb_w7⟩
        have hBL2 : Below w5.heap.size w5 w7 := hBL1.trans (hb_w7.mono hBL1.size)
        have hS2 : w7.cell? ⟨B, 0, none⟩ = some (.string K) ∧ w7.heap[w4.heap.size]? = some (.cells E1 24 (0, 0)) := ⟨below_cell hBL2 hc0x5, (hBL2.block _ (lt_row HY5.out)).trans HY5.out⟩
        refine ⟨_, rfl, ?_, ?_⟩
        · exact hS2
        simp only [Act.put, sx1, sx2, sx3, sx4, sx5, sx6]
        refine Wr.wpAnyK_take (i := 15) (v := ?_) rfl (by kernel_rfl) (fun _ _ _ h => h) (Or.inl ⟨by rfl, ?_⟩) hS2 ?_
        rotate_left
        · intro wq hSw
          obtain ⟨q0, q1⟩ := hSw
          obtain ⟨qc1, qf1⟩ := row_facts q1
          go_simp
          rfl
        simp only [Act.put, sx1, sx2, sx3, sx4, sx5, sx6]
        refine Wr.wpAnyK_take (i := 16) (v := ?_) rfl (by kernel_rfl) (fun _ _ _ h => h) (Or.inl ⟨by rfl, ?_⟩) hS2 ?_
        rotate_left
        · intro wq hSw
          obtain ⟨q0, q1⟩ := hSw
          obtain ⟨qc1, qf1⟩ := row_facts q1
          go_simp
          rfl
        simp only [Act.put, sx1, sx2, sx3, sx4, sx5, sx6]
        refine Wr.wpAnyK_done (by kernel_rfl) (NoPanic.normal ?_) _
        have HB6 := Lib.hid (HB5.out.trans (hBL2.mono HB5.out.size))
        have hbn := hBL2
        obtain ⟨w8, hw8⟩ : ∃ x, x = w7 := ⟨_, rfl⟩
        rw [← hw8] at hbn HB6 ⊢
        clear hw8 hBL0 hS0 hBL1 hS1 hBL2 hS2
        obtain ⟨w6', hw6⟩ : ∃ x, x = w8 := ⟨_, rfl⟩
        rw [← hw6] at hbn HB6 ⊢
        clear hw6
        have HX6 := Lib.hid ((hbn.block _ lX5).trans HX5.out)
        have lX6 := lt_row HX6.out
        have HY6 := Lib.hid ((hbn.block _ lY5).trans HY5.out)
        have lY6 := lt_row HY6.out
        have HBL6 := Lib.hid (HBL5.out.trans (hbn.mono HBL5.out.size))
        have hc0x6 := below_cell hbn hc0x5
        have hc3x6 := below_cell hbn hc3x5
        clear hbn hc0x5 hc3x5
        clear lX5 lY5
        go_wp2_with (first | (refine wpList_load_row rfl _ _ rfl w4.heap.size rfl _ E1 (0, 0) _ HY6.out Tryz.underlying24 rfl HE1S.out ?_) | (refine wpList_store_rowA rfl _ _ _ rfl w.heap.size E1 rfl rfl _ _ HX6.out HE1S.out HE1Z.out HE1O.out ?_) | fail)
        intro wf hwf
        go_wp2
        refine bodyPost_ret (v := .tuple #[.agg E1, .int .i64 0]) (results_cell_slot rfl _ _ w.heap.size 24 E1 (0, 0) _ rfl (by rw [hwf.out]; exact setRow_at HX6.out) Tryz.underlying24 rfl HE1S.out rfl) rfl ⟨rfl, by rw [hwf.out]; exact below_row HBL6.out (Nat.le_refl _) _⟩
    · skip
      obtain rfl : j = 8 := by omega
      obtain rfl := HVM.out Hall.out
      go_wp2_with (first | (refine wpList_store_rowA rfl _ _ _ rfl w.heap.size Z rfl (by rw [← HLIT.out]; rfl) _ _ HX4.out HZS.out rfl HZO.out ?_) | fail)
      intro wf hwf
      go_wp2
      refine bodyPost_ret (v := .tuple #[.agg Z, .int .i64 6]) (results_cell_slot rfl _ _ w.heap.size 24 Z (0, 0) _ rfl (by rw [hwf.out]; exact setRow_at HX4.out) Tryz.underlying24 rfl HZS.out rfl) rfl ⟨rfl, by rw [hwf.out]; exact below_row HBL4.out (Nat.le_refl _) _⟩


theorem Parse_ok (w : World) (s : ByteArray) (hs : s.size ≤ 140737488351232) :
    Calls Tryz.prog 9 #[.string s] w (RB (msV (parseM (bl s))) w) := by
  obtain ⟨l, y, ha⟩ : ∃ l y, all (bl s) = (l, y) := ⟨_, _, rfl⟩
  by_cases h0 : y = 0
  · subst h0
    by_cases h2 : l.length = 4
    · match l, h2, ha with
      | [k, a, b, c], _, ha => exact Parse_four w s hs ha
    · exact Parse_bad w s hs ha (.inr ⟨rfl, h2⟩)
  · exact Parse_bad w s hs ha (.inl h0)

end Go.Proofs.YtlincoeldehkfaaGreatDoor.WireM
