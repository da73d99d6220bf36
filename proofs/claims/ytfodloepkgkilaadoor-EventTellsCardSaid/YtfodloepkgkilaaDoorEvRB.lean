/-
  WHAT IS PROVED: what the document's own answer on an event's bytes is. Condition: the strings are not longer than the theorem says, and the kind is a number of eight bits.
-/
import Derived.Test.YtfodloepkgkilaaDoorEvRC
import Derived.Test.YtfodloepkgkilaaDoorEventB
import Derived.Test.YtfodloepkgkilaaDoorLivesE
import Derived.Test.YtfodloepkgkilaaDoorRef1L
namespace Go.Proofs.YtfodloepkgkilaaDoor.EvRB
open Go Go.RowKit Go.Proofs.YtfodloepkgkilaaDoor Go.Proofs.YtfodloepkgkilaaDoor.OctetS Go.Proofs.YtfodloepkgkilaaDoor.IdentS Go.Proofs.YtfodloepkgkilaaDoor.EventS Go.Proofs.YtfodloepkgkilaaDoor.OctP Go.Proofs.YtfodloepkgkilaaDoor.OctQ Go.Proofs.YtfodloepkgkilaaDoor.IdentP Go.Proofs.YtfodloepkgkilaaDoor.EventP Go.Proofs.YtfodloepkgkilaaDoor.EventC Go.Proofs.YtfodloepkgkilaaDoor.EventB
set_option linter.unusedVariables false
open Go.Proofs.YtfodloepkgkilaaDoor.LivesE (below_cell)

set_option maxRecDepth 100000 in
set_option maxHeartbeats 4000000 in
theorem Bytes_ok (w : World) (r s : ByteArray) (k : Int) (ky b : ByteArray) (n : Int) (h0 : 0 ≤ k) (h1 : k ≤ 255) (hr : r.size ≤ 140737488351232) (hs : s.size ≤ 140737488351232) (hk : ky.size ≤ 140737488351232) (hb : b.size ≤ maxLen) :
    Calls Tryd.prog 34 #[evV r s k ky b n] w (RB (.tuple #[.string (bsOf (bytesOf (evOf r s k ky b n))), .int .i64 (whyOf (checkB (evOf r s k ky b n)))]) w) := by
  have hC := fun w => EvRC.Check_ok w r s k ky b n h0 h1 hr hs hk hb
  have hWd := fun w => EvRW.Word_ok w k h0 h1
  obtain ⟨w0, hw0⟩ : ∃ w0, w0 = w.alloc (.cells #[.string r, .string s, .int .u8 k, .string ky, .string b, .int .i64 n] 36) := ⟨_, rfl⟩
  have hB0 : Below w.heap.size w w0 := by rw [hw0]; exact (Below.refl _ w).alloc (Nat.le_refl _) _
  have hx0 : w0.heap[w.heap.size]? = some (.cells #[.string r, .string s, .int .u8 k, .string ky, .string b, .int .i64 n] 36 (0, 0)) := by rw [hw0]; exact heap_new _ _
  have hl0 := lt_row hx0
  obtain ⟨hc0, hf0⟩ := row_facts hx0
  have HB0 := Lib.hid hB0
  have Hw0 := Lib.hid hw0
  unfold evV at hC ⊢
  unfold bytesOf
  cases hchk : checkB (evOf r s k ky b n)
  · rw [hchk] at hC
    have HC := Lib.hid hC
    clear hC hB0 hw0 hr hs hk hWd
    go_enter Tryd.func34, Tryd.ntmps34
    go_wp2_with fail
    rw [show (w.alloc (.cells #[.string r, .string s, .int .u8 k, .string ky, .string b, .int .i64 n] 36)) = w0 from Hw0.out.symm]
    refine (HC.out w0).mono ?_
    rintro e w1 ⟨rfl, hb1⟩
    have HB1 := Lib.hid (HB0.out.trans (hb1.mono HB0.out.size))
    clear hb1
    unfold whyOf
    go_wp2
    go_ret2
    exact ⟨rfl, HB1.out⟩
  · have hR := check_iff.1 hchk
    have h0 := hR.nonce0
    have h1 := hR.nonce1
    have hkn := hR.kind
    have hfit := hR.fits
    simp only [evOf] at h0 h1 hkn
    obtain ⟨m, rfl⟩ : ∃ m : Nat, n = m := ⟨n.toNat, by omega⟩
    obtain ⟨k0, k9⟩ := known_spec hkn
    obtain ⟨j, rfl⟩ : ∃ j : Nat, k = j := ⟨k.toNat, by omega⟩
    have hwj : word (j : Int) = wordN j := by unfold word; simp
    rw [hwj] at hWd
    have hlen : (num m).length ≤ 7 := OctetS.num_length (by unfold maxNum; omega)
    have hparts : parts (evOf r s j ky b m) = [r, s, bsOf (wordN j), ky, b, bsOf (num m)].map bl := by
      simp [parts, evOf, bl_bsOf, word]
    have hfin : EventS.bytes (evOf r s j ky b m) = OctetS.list ([r, s, bsOf (wordN j), ky, b, bsOf (num m)].map bl) := by
      unfold EventS.bytes
      rw [hparts]
    rw [if_pos rfl, hfin]
    rw [hparts] at hfit
    have hL := fun w v h => Ref1L.List_ok w v [r, s, bsOf (wordN j), ky, b, bsOf (num m)] h hfit
    rw [hchk] at hC
    obtain ⟨out, hout⟩ : ∃ out, out = bsOf (OctetS.list ([r, s, bsOf (wordN j), ky, b, bsOf (num m)].map bl)) := ⟨_, rfl⟩
    obtain ⟨wd, hwd⟩ : ∃ wd, wd = bsOf (wordN j) := ⟨_, rfl⟩
    obtain ⟨nt, hnt⟩ : ∃ nt, nt = bsOf (num m) := ⟨_, rfl⟩
    have hN := fun w => Ref1N.Num_ok w m (by unfold maxNum; omega)
    rw [← hnt] at hN
    rw [← hout]
    rw [← hout, ← hwd, ← hnt] at hL
    rw [← hwd] at hWd
    have HC := Lib.hid hC
    have HN := Lib.hid hN
    have HL := Lib.hid hL
    have HWd := Lib.hid hWd
    have Hj : j < 9 := by omega
    clear hC hB0 hw0 hr hs hk hN hL hwd hnt hout hfin hparts hfit hR hkn hchk hWd hwj
    go_enter Tryd.func34, Tryd.ntmps34
    go_wp2_with fail
    rw [show (w.alloc (.cells #[.string r, .string s, .int .u8 j, .string ky, .string b, .int .i64 m] 36)) = w0 from Hw0.out.symm]
    refine (HC.out w0).mono ?_
    rintro e w1 ⟨rfl, hb1⟩
    have HB1 := Lib.hid (HB0.out.trans (hb1.mono HB0.out.size))
    have hx1 := (hb1.block _ hl0).trans hx0
    have hl1 := lt_row hx1
    obtain ⟨hc1, hf1⟩ := row_facts hx1
    clear hb1 hc0 hf0
    unfold whyOf
    go_wp2_with fail
    refine (HN.out w1).mono ?_
    rintro e w2 ⟨rfl, hb2⟩
    have HB2 := Lib.hid (HB1.out.trans (hb2.mono HB1.out.size))
    have hx2 := (hb2.block _ hl1).trans hx1
    have hl2 := lt_row hx2
    obtain ⟨hc2, hf2⟩ := row_facts hx2
    clear hb2 hc1 hf1
    go_wp2_with fail
    refine wp_region_noPanic ?_
    refine wp_region_held (S := (fun W => W.heap[w.heap.size]? = some (.cells #[.string r, .string s, .int .u8 j, .string ky, .string b, .int .i64 m] 36 (0, 0)))) (by kernel_rfl) ?_
    change wpAnyH _ _ _ _ _ _ _ _ (World.drew w2)
    have hS0 : (w2.drew).heap[w.heap.size]? = some (.cells #[.string r, .string s, .int .u8 j, .string ky, .string b, .int .i64 m] 36 (0, 0)) := hx2
    refine wpAnyH_take (i := 0) (v := ?_) rfl (by kernel_rfl) (by kernel_rfl) (by kernel_rfl) (fun _ _ _ h => h) (Or.inl ⟨by rfl, ?_⟩) hS0 ?_
    rotate_left
    · intro wq hSw
      have q0 := hSw
      obtain ⟨qc0, qf0⟩ := row_facts q0
      go_simp
      rfl
    simp only [Act.put, List.getElem_toArray, List.getElem_cons_zero, List.getElem_cons_succ, List.setIfInBounds_toArray, List.set_cons_zero, List.set_cons_succ]
    refine wpAnyH_take (i := 1) (v := ?_) rfl (by kernel_rfl) (by kernel_rfl) (by kernel_rfl) (fun _ _ _ h => h) (Or.inl ⟨by rfl, ?_⟩) hS0 ?_
    rotate_left
    · intro wq hSw
      have q0 := hSw
      obtain ⟨qc0, qf0⟩ := row_facts q0
      go_simp
      rfl
    simp only [Act.put, List.getElem_toArray, List.getElem_cons_zero, List.getElem_cons_succ, List.setIfInBounds_toArray, List.set_cons_zero, List.set_cons_succ]
    refine wpAnyH_take (i := 2) (v := ?_) rfl (by kernel_rfl) (by kernel_rfl) (by kernel_rfl) (fun _ _ _ h => h) (Or.inl ⟨by rfl, ?_⟩) hS0 ?_
    rotate_left
    · intro wq hSw
      have q0 := hSw
      obtain ⟨qc0, qf0⟩ := row_facts q0
      go_simp
      rfl
    simp only [Act.put, List.getElem_toArray, List.getElem_cons_zero, List.getElem_cons_succ, List.setIfInBounds_toArray, List.set_cons_zero, List.set_cons_succ]
    refine wpAnyH_take (i := 3) (v := ?_) rfl (by kernel_rfl) (by kernel_rfl) (by kernel_rfl) (fun _ _ _ h => h) (Or.inl ⟨by rfl, ?_⟩) hS0 ?_
    rotate_left
    · intro wq hSw
      have q0 := hSw
      obtain ⟨qc0, qf0⟩ := row_facts q0
      go_simp
      rfl
    simp only [Act.put, List.getElem_toArray, List.getElem_cons_zero, List.getElem_cons_succ, List.setIfInBounds_toArray, List.set_cons_zero, List.set_cons_succ]
    refine wpAnyH_take (i := 4) (v := ?_) rfl (by kernel_rfl) (by kernel_rfl) (by kernel_rfl) (fun _ _ _ h => h) (Or.inl ⟨by rfl, ?_⟩) hS0 ?_
    rotate_left
    · intro wq hSw
      have q0 := hSw
      obtain ⟨qc0, qf0⟩ := row_facts q0
      go_simp
      rfl
    simp only [Act.put, List.getElem_toArray, List.getElem_cons_zero, List.getElem_cons_succ, List.setIfInBounds_toArray, List.set_cons_zero, List.set_cons_succ]
    refine wpAnyH_take (i := 5) (v := ?_) rfl (by kernel_rfl) (by kernel_rfl) (by kernel_rfl) (fun _ _ _ h => h) (Or.inl ⟨by rfl, ?_⟩) hS0 ?_
    rotate_left
    · intro wq hSw
      have q0 := hSw
      obtain ⟨qc0, qf0⟩ := row_facts q0
      go_simp
      rfl
    simp only [Act.put, List.getElem_toArray, List.getElem_cons_zero, List.getElem_cons_succ, List.setIfInBounds_toArray, List.set_cons_zero, List.set_cons_succ]
    refine wpAnyH_take (i := 7) (v := ?_) rfl (by kernel_rfl) (by kernel_rfl) (by kernel_rfl) (fun _ _ _ h => h) (Or.inl ⟨by rfl, ?_⟩) hS0 ?_
    rotate_left
    · intro wq hSw
      have q0 := hSw
      obtain ⟨qc0, qf0⟩ := row_facts q0
      go_simp
      rfl
    simp only [Act.put, List.getElem_toArray, List.getElem_cons_zero, List.getElem_cons_succ, List.setIfInBounds_toArray, List.set_cons_zero, List.set_cons_succ]
    refine wpAnyH_take (i := 8) (v := ?_) rfl (by kernel_rfl) (by kernel_rfl) (by kernel_rfl) (fun _ _ _ h => h) (Or.inl ⟨by rfl, ?_⟩) hS0 ?_
    rotate_left
    · intro wq hSw
      have q0 := hSw
      obtain ⟨qc0, qf0⟩ := row_facts q0
      go_simp
      rfl
    simp only [Act.put, List.getElem_toArray, List.getElem_cons_zero, List.getElem_cons_succ, List.setIfInBounds_toArray, List.set_cons_zero, List.set_cons_succ]
    refine wpAnyH_take (i := 9) (v := ?_) rfl (by kernel_rfl) (by kernel_rfl) (by kernel_rfl) (fun _ _ _ h => h) (Or.inl ⟨by rfl, ?_⟩) hS0 ?_
    rotate_left
    · intro wq hSw
      have q0 := hSw
      obtain ⟨qc0, qf0⟩ := row_facts q0
      go_simp
      rfl
    simp only [Act.put, List.getElem_toArray, List.getElem_cons_zero, List.getElem_cons_succ, List.setIfInBounds_toArray, List.set_cons_zero, List.set_cons_succ]
    refine wpAnyH_take (i := 10) (v := ?_) rfl (by kernel_rfl) (by kernel_rfl) (by kernel_rfl) (fun _ _ _ h => h) (Or.inl ⟨by rfl, ?_⟩) hS0 ?_
    rotate_left
    · intro wq hSw
      have q0 := hSw
      obtain ⟨qc0, qf0⟩ := row_facts q0
      go_simp
      rfl
    simp only [Act.put, List.getElem_toArray, List.getElem_cons_zero, List.getElem_cons_succ, List.setIfInBounds_toArray, List.set_cons_zero, List.set_cons_succ]
    refine wpAnyH_take (i := 11) (v := ?_) rfl (by kernel_rfl) (by kernel_rfl) (by kernel_rfl) (fun _ _ _ h => h) (Or.inl ⟨by rfl, ?_⟩) hS0 ?_
    rotate_left
    · intro wq hSw
      have q0 := hSw
      obtain ⟨qc0, qf0⟩ := row_facts q0
      go_simp
      rfl
    simp only [Act.put, List.getElem_toArray, List.getElem_cons_zero, List.getElem_cons_succ, List.setIfInBounds_toArray, List.set_cons_zero, List.set_cons_succ]
    refine wpAnyH_all (rs := [6]) (by kernel_rfl) (by simp) ?_
    intro i hi
    simp only [List.mem_cons, List.not_mem_nil, or_false] at hi
    subst hi
    refine wpOp_call rfl (by rfl) (by go_simp; first | rfl | exact ⟨⟨rfl, rfl⟩, rfl⟩ | exact ⟨rfl, rfl⟩) ?_
    refine (HWd.out (w2.drew)).mono ?_
    rintro e w3 ⟨rfl, hb_w3⟩
    have HB_w3 := Lib.hid (((HB2.out).drew).trans (hb_w3.mono ((HB2.out).drew).size))
    have p1_0 : (w3).heap[w.heap.size]? = some (.cells #[.string r, .string s, .int .u8 j, .string ky, .string b, .int .i64 m] 36 (0, 0)) := (hb_w3.block _ (lt_row hx2)).trans hx2
    have hS1 : (w3).heap[w.heap.size]? = some (.cells #[.string r, .string s, .int .u8 j, .string ky, .string b, .int .i64 m] 36 (0, 0)) := p1_0
    clear hb_w3
    refine ⟨_, rfl, ?_, ?_⟩
    · exact hS1
    simp only [Act.put, List.getElem_toArray, List.getElem_cons_zero, List.getElem_cons_succ, List.setIfInBounds_toArray, List.set_cons_zero, List.set_cons_succ]
    refine wpAnyH_all (rs := [12]) (by kernel_rfl) (by simp) ?_
    intro i hi
    simp only [List.mem_cons, List.not_mem_nil, or_false] at hi
    subst hi
    refine wpOp_run rfl (by rfl) (w' := w3.alloc (.cells #[.string r, .string s, .string wd, .string ky, .string b, .string nt] 9)) (v := .slice (some ⟨w3.heap.size, 0, none⟩) 6 6) (by go_simp; first | done | rfl) ?_
    obtain ⟨w4, hw_w4⟩ : ∃ w4, w4 = w3.alloc (.cells #[.string r, .string s, .string wd, .string ky, .string b, .string nt] 9) := ⟨_, rfl⟩
    rw [← hw_w4]
    have hb_w4 : Below w3.heap.size w3 w4 := by rw [hw_w4]; exact (Below.refl _ _).alloc (Nat.le_refl _) _
    have HB_w4 := Lib.hid ((HB_w3.out).trans (hb_w4.mono (HB_w3.out).size))
    have hn_w4 : w4.heap[w3.heap.size]? = some (.cells #[.string r, .string s, .string wd, .string ky, .string b, .string nt] 9 (0, 0)) := by rw [hw_w4]; exact heap_new' _ rfl
    have p2_0 : (w4).heap[w.heap.size]? = some (.cells #[.string r, .string s, .int .u8 j, .string ky, .string b, .int .i64 m] 36 (0, 0)) := (hb_w4.block _ (lt_row p1_0)).trans p1_0
    have hS2 : (w4).heap[w.heap.size]? = some (.cells #[.string r, .string s, .int .u8 j, .string ky, .string b, .int .i64 m] 36 (0, 0)) := p2_0
    clear hb_w4 hw_w4
    refine ⟨hS2, ?_⟩
    simp only [Act.put, List.getElem_toArray, List.getElem_cons_zero, List.getElem_cons_succ, List.setIfInBounds_toArray, List.set_cons_zero, List.set_cons_succ]
    refine wpAnyH_all (rs := [13]) (by kernel_rfl) (by simp) ?_
    intro i hi
    simp only [List.mem_cons, List.not_mem_nil, or_false] at hi
    subst hi
    refine wpOp_call rfl (by rfl) (by go_simp; first | rfl | exact ⟨⟨rfl, rfl⟩, rfl⟩ | exact ⟨rfl, rfl⟩) ?_
    refine (HL.out w4 (.slice (some ⟨w3.heap.size, 0, none⟩) 6 6) (sl_built hn_w4 rfl (by decide))).mono ?_
    rintro e w5 ⟨rfl, hb_w5⟩
    have HB_w5 := Lib.hid ((HB_w4.out).trans (hb_w5.mono (HB_w4.out).size))
    have p3_0 : (w5).heap[w.heap.size]? = some (.cells #[.string r, .string s, .int .u8 j, .string ky, .string b, .int .i64 m] 36 (0, 0)) := (hb_w5.block _ (lt_row p2_0)).trans p2_0
    have hS3 : (w5).heap[w.heap.size]? = some (.cells #[.string r, .string s, .int .u8 j, .string ky, .string b, .int .i64 m] 36 (0, 0)) := p3_0
    clear hb_w5
    refine ⟨_, rfl, ?_, ?_⟩
    · exact hS3
    simp only [Act.put, List.getElem_toArray, List.getElem_cons_zero, List.getElem_cons_succ, List.setIfInBounds_toArray, List.set_cons_zero, List.set_cons_succ]
    refine wpAnyH_take (i := 14) (v := ?_) rfl (by kernel_rfl) (by kernel_rfl) (by kernel_rfl) (fun _ _ _ h => h) (Or.inl ⟨by rfl, ?_⟩) hS3 ?_
    rotate_left
    · intro wq hSw
      have q0 := hSw
      obtain ⟨qc0, qf0⟩ := row_facts q0
      go_simp
      rfl
    simp only [Act.put, List.getElem_toArray, List.getElem_cons_zero, List.getElem_cons_succ, List.setIfInBounds_toArray, List.set_cons_zero, List.set_cons_succ]
    refine wpAnyH_take (i := 15) (v := ?_) rfl (by kernel_rfl) (by kernel_rfl) (by kernel_rfl) (fun _ _ _ h => h) (Or.inl ⟨by rfl, ?_⟩) hS3 ?_
    rotate_left
    · intro wq hSw
      have q0 := hSw
      obtain ⟨qc0, qf0⟩ := row_facts q0
      go_simp
      rfl
    simp only [Act.put, List.getElem_toArray, List.getElem_cons_zero, List.getElem_cons_succ, List.setIfInBounds_toArray, List.set_cons_zero, List.set_cons_succ]
    refine wpAnyH_take (i := 16) (v := ?_) rfl (by kernel_rfl) (by kernel_rfl) (by kernel_rfl) (fun _ _ _ h => h) (Or.inl ⟨by rfl, ?_⟩) hS3 ?_
    rotate_left
    · intro wq hSw
      have q0 := hSw
      obtain ⟨qc0, qf0⟩ := row_facts q0
      go_simp
      rfl
    simp only [Act.put, List.getElem_toArray, List.getElem_cons_zero, List.getElem_cons_succ, List.setIfInBounds_toArray, List.set_cons_zero, List.set_cons_succ]
    refine wpAnyH_take (i := 17) (v := ?_) rfl (by kernel_rfl) (by kernel_rfl) (by kernel_rfl) (fun _ _ _ h => h) (Or.inl ⟨by rfl, ?_⟩) hS3 ?_
    rotate_left
    · intro wq hSw
      have q0 := hSw
      obtain ⟨qc0, qf0⟩ := row_facts q0
      go_simp
      rfl
    simp only [Act.put, List.getElem_toArray, List.getElem_cons_zero, List.getElem_cons_succ, List.setIfInBounds_toArray, List.set_cons_zero, List.set_cons_succ]
    refine wpAnyH_done (by kernel_rfl) (NoPanic.normal ?_) _
    go_wp2
    go_ret2
    exact ⟨rfl, HB_w5.out⟩

end Go.Proofs.YtfodloepkgkilaaDoor.EvRB
