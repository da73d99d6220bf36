/-
  WHAT IS PROVED: the program's event package makes an event's bytes. Condition: the listed variables hold what 'VarsE' says, and the strings are not longer than the theorem says.
-/
import Derived.Test.YtfodloepkgkilaaDoorEventC
import Derived.Test.YtfodloepkgkilaaDoorOctQ
namespace Go.Proofs.YtfodloepkgkilaaDoor.EventB
open Go Go.RowKit Go.Proofs.YtfodloepkgkilaaDoor Go.Proofs.YtfodloepkgkilaaDoor.OctetS Go.Proofs.YtfodloepkgkilaaDoor.IdentS Go.Proofs.YtfodloepkgkilaaDoor.EventS Go.Proofs.YtfodloepkgkilaaDoor.OctP Go.Proofs.YtfodloepkgkilaaDoor.OctQ Go.Proofs.YtfodloepkgkilaaDoor.IdentP Go.Proofs.YtfodloepkgkilaaDoor.EventP Go.Proofs.YtfodloepkgkilaaDoor.EventC
set_option linter.unusedVariables false
set_option linter.unusedSimpArgs false

theorem sl_built {w : World} {b n : Nat} {cs : Array Value} {t : TypeId} (h : w.heap[b]? = some (.cells cs t (0, 0))) (hn : n = cs.size) (hm : n ≤ maxLen) : Sl w (.slice (some ⟨b, 0, none⟩) n n) 1 n cs.toList := by
  subst hn
  refine ⟨by simp, .inr ⟨⟨b, 0, none⟩, cs.size, rfl, Nat.le_refl _, hm, fun j u hu => ?_⟩⟩
  rw [show (Addr.add ⟨b, 0, none⟩ j : Addr) = ⟨b, j, none⟩ by unfold Addr.add; cases j <;> simp]
  rw [cell_row h]
  simpa using hu

theorem cell_alloc {w : World} {p : Addr} {v : Value} (h : w.cell? p = some v) (o : Obj) : (w.alloc o).cell? p = some v :=
  (((Below.refl _ w).alloc (Nat.le_refl _) o).cell (World.block_lt_of_cell? w _ h)).trans h

def bytesOf (x : Ev) : List UInt8 := if checkB x then EventS.bytes x else []

set_option maxRecDepth 100000 in
set_option maxHeartbeats 4000000 in
theorem Bytes_ok (w : World) (r s : ByteArray) (k : Int) (ky b : ByteArray) (n : Int) (hv : VarsE w) (hr : r.size ≤ 140737488351232) (hs : s.size ≤ 140737488351232) (hk : ky.size ≤ 140737488351232) (hb : b.size ≤ maxLen) :
    Calls Tryd.prog 33 #[evV r s k ky b n] w (RB (.tuple #[.string (bsOf (bytesOf (evOf r s k ky b n))), .int .i64 (whyOf (checkB (evOf r s k ky b n)))]) w) := by
  have hC := fun w hv => Check_ok w r s k ky b n hv hr hs hk hb
  obtain ⟨w0, hw0⟩ : ∃ w0, w0 = w.alloc (.cells #[.string r, .string s, .int .u8 k, .string ky, .string b, .int .i64 n] 36) := ⟨_, rfl⟩
  have hB0 : Below w.heap.size w w0 := by rw [hw0]; exact (Below.refl _ w).alloc (Nat.le_refl _) _
  have hx0 : w0.heap[w.heap.size]? = some (.cells #[.string r, .string s, .int .u8 k, .string ky, .string b, .int .i64 n] 36 (0, 0)) := by rw [hw0]; exact heap_new _ _
  have hl0 := lt_row hx0
  obtain ⟨hc0, hf0⟩ := row_facts hx0
  have HV0 := Lib.hid (hv.below hB0)
  have HB0 := Lib.hid hB0
  have Hw0 := Lib.hid hw0
  unfold evV at hC ⊢
  unfold bytesOf
  cases hchk : checkB (evOf r s k ky b n)
  · rw [hchk] at hC
    have HC := Lib.hid hC
    clear hC hv hB0 hw0 hr hs hk
    go_enter Tryd.func33, Tryd.ntmps33
    go_wp2_with fail
    rw [show (w.alloc (.cells #[.string r, .string s, .int .u8 k, .string ky, .string b, .int .i64 n] 36)) = w0 from Hw0.out.symm]
    refine (HC.out w0 HV0.out.i).mono ?_
    rintro e w1 ⟨rfl, hb1⟩
    have HB1 := Lib.hid (HB0.out.trans (hb1.mono HB0.out.size))
    clear hb1
    unfold whyOf
    go_wp2
    go_ret2
    exact ⟨rfl, HB1.out⟩
  · have hR := check_iff.1 hchk
    have h0 := hR.nonce0
    have h1 := hR.nonce1
    have hkn := hR.kind
    have hfit := hR.fits
    simp only [evOf] at h0 h1 hkn
    obtain ⟨m, rfl⟩ : ∃ m : Nat, n = m := ⟨n.toNat, by omega⟩
    obtain ⟨k0, k9⟩ := known_spec hkn
    obtain ⟨j, rfl⟩ : ∃ j : Nat, k = j := ⟨k.toNat, by omega⟩
    have hlen : (num m).length ≤ 7 := OctetS.num_length (by unfold maxNum; omega)
    have hparts : parts (evOf r s j ky b m) = [r, s, bsOf (wordN j), ky, b, bsOf (num m)].map bl := by
      simp [parts, evOf, bl_bsOf, word]
    have hfin : EventS.bytes (evOf r s j ky b m) = OctetS.list ([r, s, bsOf (wordN j), ky, b, bsOf (num m)].map bl) := by
      unfold EventS.bytes
      rw [hparts]
    rw [if_pos rfl, hfin]
    rw [hparts] at hfit
    have hL := fun w v h => List_ok w v [r, s, bsOf (wordN j), ky, b, bsOf (num m)] h hfit
    rw [hchk] at hC
    obtain ⟨out, hout⟩ : ∃ out, out = bsOf (OctetS.list ([r, s, bsOf (wordN j), ky, b, bsOf (num m)].map bl)) := ⟨_, rfl⟩
    obtain ⟨wd, hwd⟩ : ∃ wd, wd = bsOf (wordN j) := ⟨_, rfl⟩
    obtain ⟨nt, hnt⟩ : ∃ nt, nt = bsOf (num m) := ⟨_, rfl⟩
    have hN := fun w => Num_ok w m (by unfold maxNum; omega)
    rw [← hnt] at hN
    rw [← hout]
    rw [← hout, ← hwd, ← hnt] at hL
    have HC := Lib.hid hC
    have HN := Lib.hid hN
    have HL := Lib.hid hL
    have HW := Lib.hid hwd
    have Hj : j < 9 := by omega
    clear hC hv hB0 hw0 hr hs hk hN hL hwd hnt hout hfin hparts hfit hR hkn hchk
    go_enter Tryd.func33, Tryd.ntmps33
    go_wp2_with fail
    rw [show (w.alloc (.cells #[.string r, .string s, .int .u8 j, .string ky, .string b, .int .i64 m] 36)) = w0 from Hw0.out.symm]
    refine (HC.out w0 HV0.out.i).mono ?_
    rintro e w1 ⟨rfl, hb1⟩
    have HB1 := Lib.hid (HB0.out.trans (hb1.mono HB0.out.size))
    have HV1 := Lib.hid (HV0.out.below hb1)
    have hx1 := (hb1.block _ hl0).trans hx0
    have hl1 := lt_row hx1
    obtain ⟨hc1, hf1⟩ := row_facts hx1
    clear hb1 hc0 hf0
    unfold whyOf
    go_wp2_with fail
    refine (HN.out w1).mono ?_
    rintro e w2 ⟨rfl, hb2⟩
    have HB2 := Lib.hid (HB1.out.trans (hb2.mono HB1.out.size))
    have HV2 := Lib.hid (HV1.out.below hb2)
    have hx2 := (hb2.block _ hl1).trans hx1
    have hl2 := lt_row hx2
    obtain ⟨hc2, hf2⟩ := row_facts hx2
    have hcw : w2.cell? ⟨1, j, none⟩ = some (.string wd) := (HV2.out.words j Hj).trans (by rw [HW.out])
    clear hb2 hc1 hf1
    go_wp2_with fail
    have HLw := Lib.hid (HL.out (w2.drew.alloc (.cells #[.string r, .string s, .string wd, .string ky, .string b, .string nt] 9)) (.slice (some ⟨w2.heap.size, 0, none⟩) 6 6) (sl_built (t := 9) (heap_new' _ rfl) rfl (by decide)))
    refine wp_region_noPanic ?_
    refine wp_region_held (S := (fun W => W.heap[w.heap.size]? = some (.cells #[.string r, .string s, .int .u8 j, .string ky, .string b, .int .i64 m] 36 (0, 0)) ∧ W.cell? ⟨1, j, none⟩ = some (.string wd))) (by kernel_rfl) ?_
    change wpAnyH _ _ _ _ _ _ _ _ (World.drew w2)
    have hS0 : w2.drew.heap[w.heap.size]? = some (.cells #[.string r, .string s, .int .u8 j, .string ky, .string b, .int .i64 m] 36 (0, 0)) ∧ w2.drew.cell? ⟨1, j, none⟩ = some (.string wd) := ⟨hx2, hcw⟩
    refine wpAnyH_take (i := 0) (v := ?_) rfl (by kernel_rfl) (by kernel_rfl) (by kernel_rfl) (fun _ _ _ h => h) (Or.inl ⟨by rfl, ?_⟩) hS0 ?_
    rotate_left
    · intro w hSw
      obtain ⟨hxw, hww⟩ := hSw
      obtain ⟨hcw, hfw⟩ := row_facts hxw
      go_simp
      rfl
    simp only [Act.put, List.getElem_toArray, List.getElem_cons_zero, List.getElem_cons_succ, List.setIfInBounds_toArray, List.set_cons_zero, List.set_cons_succ]
    refine wpAnyH_take (i := 1) (v := ?_) rfl (by kernel_rfl) (by kernel_rfl) (by kernel_rfl) (fun _ _ _ h => h) (Or.inl ⟨by rfl, ?_⟩) hS0 ?_
    rotate_left
    · intro w hSw
      obtain ⟨hxw, hww⟩ := hSw
      obtain ⟨hcw, hfw⟩ := row_facts hxw
      go_simp
      rfl
    simp only [Act.put, List.getElem_toArray, List.getElem_cons_zero, List.getElem_cons_succ, List.setIfInBounds_toArray, List.set_cons_zero, List.set_cons_succ]
    refine wpAnyH_take (i := 2) (v := ?_) rfl (by kernel_rfl) (by kernel_rfl) (by kernel_rfl) (fun _ _ _ h => h) (Or.inl ⟨by rfl, ?_⟩) hS0 ?_
    rotate_left
    · intro w hSw
      obtain ⟨hxw, hww⟩ := hSw
      obtain ⟨hcw, hfw⟩ := row_facts hxw
      go_simp
      rfl
    simp only [Act.put, List.getElem_toArray, List.getElem_cons_zero, List.getElem_cons_succ, List.setIfInBounds_toArray, List.set_cons_zero, List.set_cons_succ]
    refine wpAnyH_take (i := 3) (v := ?_) rfl (by kernel_rfl) (by kernel_rfl) (by kernel_rfl) (fun _ _ _ h => h) (Or.inl ⟨by rfl, ?_⟩) hS0 ?_
    rotate_left
    · intro w hSw
      obtain ⟨hxw, hww⟩ := hSw
      obtain ⟨hcw, hfw⟩ := row_facts hxw
      go_simp
      rfl
    simp only [Act.put, List.getElem_toArray, List.getElem_cons_zero, List.getElem_cons_succ, List.setIfInBounds_toArray, List.set_cons_zero, List.set_cons_succ]
    refine wpAnyH_take (i := 4) (v := ?_) rfl (by kernel_rfl) (by kernel_rfl) (by kernel_rfl) (fun _ _ _ h => h) (Or.inl ⟨by rfl, ?_⟩) hS0 ?_
    rotate_left
    · intro w hSw
      obtain ⟨hxw, hww⟩ := hSw
      obtain ⟨hcw, hfw⟩ := row_facts hxw
      go_simp
      rfl
    simp only [Act.put, List.getElem_toArray, List.getElem_cons_zero, List.getElem_cons_succ, List.setIfInBounds_toArray, List.set_cons_zero, List.set_cons_succ]
    refine wpAnyH_take (i := 5) (v := ?_) rfl (by kernel_rfl) (by kernel_rfl) (by kernel_rfl) (fun _ _ _ h => h) (Or.inl ⟨by rfl, ?_⟩) hS0 ?_
    rotate_left
    · intro w hSw
      obtain ⟨hxw, hww⟩ := hSw
      obtain ⟨hcw, hfw⟩ := row_facts hxw
      go_simp
      rfl
    simp only [Act.put, List.getElem_toArray, List.getElem_cons_zero, List.getElem_cons_succ, List.setIfInBounds_toArray, List.set_cons_zero, List.set_cons_succ]
    refine wpAnyH_take (i := 6) (v := ?_) rfl (by kernel_rfl) (by kernel_rfl) (by kernel_rfl) (fun _ _ _ h => h) (Or.inl ⟨by rfl, ?_⟩) hS0 ?_
    rotate_left
    · intro w hSw
      obtain ⟨hxw, hww⟩ := hSw
      obtain ⟨hcw, hfw⟩ := row_facts hxw
      go_simp
      rfl
    simp only [Act.put, List.getElem_toArray, List.getElem_cons_zero, List.getElem_cons_succ, List.setIfInBounds_toArray, List.set_cons_zero, List.set_cons_succ]
    refine wpAnyH_take (i := 7) (v := ?_) rfl (by kernel_rfl) (by kernel_rfl) (by kernel_rfl) (fun _ _ _ h => h) (Or.inl ⟨by rfl, ?_⟩) hS0 ?_
    rotate_left
    · intro w hSw
      obtain ⟨hxw, hww⟩ := hSw
      obtain ⟨hcw, hfw⟩ := row_facts hxw
      go_simp
      rfl
    simp only [Act.put, List.getElem_toArray, List.getElem_cons_zero, List.getElem_cons_succ, List.setIfInBounds_toArray, List.set_cons_zero, List.set_cons_succ]
    refine wpAnyH_take (i := 8) (v := ?_) rfl (by kernel_rfl) (by kernel_rfl) (by kernel_rfl) (fun _ _ _ h => h) (Or.inl ⟨by rfl, ?_⟩) hS0 ?_
    rotate_left
    · intro w hSw
      obtain ⟨hxw, hww⟩ := hSw
      obtain ⟨hcw, hfw⟩ := row_facts hxw
      go_simp
      rfl
    simp only [Act.put, List.getElem_toArray, List.getElem_cons_zero, List.getElem_cons_succ, List.setIfInBounds_toArray, List.set_cons_zero, List.set_cons_succ]
    refine wpAnyH_take (i := 9) (v := ?_) rfl (by kernel_rfl) (by kernel_rfl) (by kernel_rfl) (fun _ _ _ h => h) (Or.inl ⟨by rfl, ?_⟩) hS0 ?_
    rotate_left
    · intro w hSw
      obtain ⟨hxw, hww⟩ := hSw
      obtain ⟨hcw, hfw⟩ := row_facts hxw
      go_simp
      rfl
    simp only [Act.put, List.getElem_toArray, List.getElem_cons_zero, List.getElem_cons_succ, List.setIfInBounds_toArray, List.set_cons_zero, List.set_cons_succ]
    refine wpAnyH_take (i := 10) (v := ?_) rfl (by kernel_rfl) (by kernel_rfl) (by kernel_rfl) (fun _ _ _ h => h) (Or.inl ⟨by rfl, ?_⟩) hS0 ?_
    rotate_left
    · intro w hSw
      obtain ⟨hxw, hww⟩ := hSw
      obtain ⟨hcw, hfw⟩ := row_facts hxw
      go_simp
      rfl
    simp only [Act.put, List.getElem_toArray, List.getElem_cons_zero, List.getElem_cons_succ, List.setIfInBounds_toArray, List.set_cons_zero, List.set_cons_succ]
    refine wpAnyH_take (i := 11) (v := ?_) rfl (by kernel_rfl) (by kernel_rfl) (by kernel_rfl) (fun _ _ _ h => h) (Or.inl ⟨by rfl, ?_⟩) hS0 ?_
    rotate_left
    · intro w hSw
      obtain ⟨hxw, hww⟩ := hSw
      obtain ⟨hcw, hfw⟩ := row_facts hxw
      go_simp
      rfl
    simp only [Act.put, List.getElem_toArray, List.getElem_cons_zero, List.getElem_cons_succ, List.setIfInBounds_toArray, List.set_cons_zero, List.set_cons_succ]
    refine wpAnyH_take (i := 12) (v := ?_) rfl (by kernel_rfl) (by kernel_rfl) (by kernel_rfl) (fun _ _ _ h => h) (Or.inl ⟨by rfl, ?_⟩) hS0 ?_
    rotate_left
    · intro w hSw
      obtain ⟨hxw, hww⟩ := hSw
      obtain ⟨hcw, hfw⟩ := row_facts hxw
      go_simp
      rfl
    simp only [Act.put, List.getElem_toArray, List.getElem_cons_zero, List.getElem_cons_succ, List.setIfInBounds_toArray, List.set_cons_zero, List.set_cons_succ]
    refine wpAnyH_all (rs := [13]) (by kernel_rfl) (by simp) ?_
    intro i hi
    simp only [List.mem_cons, List.not_mem_nil, or_false] at hi
    subst hi
    refine wpOp_run rfl (by rfl) (w' := w2.drew.alloc (.cells #[.string r, .string s, .string wd, .string ky, .string b, .string nt] 9)) (v := .slice (some ⟨w2.heap.size, 0, none⟩) 6 6) (by go_simp) ⟨?_, ?_⟩
    · exact ⟨heap_at hx2 _, cell_alloc hcw _⟩
    simp only [Act.put, List.getElem_toArray, List.getElem_cons_zero, List.getElem_cons_succ, List.setIfInBounds_toArray, List.set_cons_zero, List.set_cons_succ]
    refine wpAnyH_all (rs := [14]) (by kernel_rfl) (by simp) ?_
    intro i hi
    simp only [List.mem_cons, List.not_mem_nil, or_false] at hi
    subst hi
    refine wpOp_call rfl (by rfl) (by go_simp; first | rfl | exact ⟨⟨rfl, rfl⟩, rfl⟩ | exact ⟨rfl, rfl⟩) ?_
    refine HLw.out.mono ?_
    rintro e w3 ⟨rfl, hb3⟩
    have hS1 : w3.heap[w.heap.size]? = some (.cells #[.string r, .string s, .int .u8 j, .string ky, .string b, .int .i64 m] 36 (0, 0)) ∧ w3.cell? ⟨1, j, none⟩ = some (.string wd) := ⟨(hb3.block _ (by simp; omega)).trans (heap_at (w := w2.drew) hx2 _), (hb3.cell (World.block_lt_of_cell? _ _ (cell_alloc (w := w2.drew) hcw _))).trans (cell_alloc (w := w2.drew) hcw _)⟩
    have HB3 : Below w.heap.size w w3 := (((HB2.out.drew).alloc (HB2.out.drew).size _).trans (hb3.mono ((HB2.out.drew).alloc (HB2.out.drew).size _).size))
    refine ⟨_, rfl, ?_, ?_⟩
    · exact hS1
    simp only [Act.put, List.getElem_toArray, List.getElem_cons_zero, List.getElem_cons_succ, List.setIfInBounds_toArray, List.set_cons_zero, List.set_cons_succ]
    refine wpAnyH_take (i := 15) (v := ?_) rfl (by kernel_rfl) (by kernel_rfl) (by kernel_rfl) (fun _ _ _ h => h) (Or.inl ⟨by rfl, ?_⟩) hS1 ?_
    rotate_left
    · intro w hSw
      obtain ⟨hxw, hww⟩ := hSw
      obtain ⟨hcw, hfw⟩ := row_facts hxw
      go_simp
      rfl
    simp only [Act.put, List.getElem_toArray, List.getElem_cons_zero, List.getElem_cons_succ, List.setIfInBounds_toArray, List.set_cons_zero, List.set_cons_succ]
    refine wpAnyH_take (i := 16) (v := ?_) rfl (by kernel_rfl) (by kernel_rfl) (by kernel_rfl) (fun _ _ _ h => h) (Or.inl ⟨by rfl, ?_⟩) hS1 ?_
    rotate_left
    · intro w hSw
      obtain ⟨hxw, hww⟩ := hSw
      obtain ⟨hcw, hfw⟩ := row_facts hxw
      go_simp
      rfl
    simp only [Act.put, List.getElem_toArray, List.getElem_cons_zero, List.getElem_cons_succ, List.setIfInBounds_toArray, List.set_cons_zero, List.set_cons_succ]
    refine wpAnyH_take (i := 17) (v := ?_) rfl (by kernel_rfl) (by kernel_rfl) (by kernel_rfl) (fun _ _ _ h => h) (Or.inl ⟨by rfl, ?_⟩) hS1 ?_
    rotate_left
    · intro w hSw
      obtain ⟨hxw, hww⟩ := hSw
      obtain ⟨hcw, hfw⟩ := row_facts hxw
      go_simp
      rfl
    simp only [Act.put, List.getElem_toArray, List.getElem_cons_zero, List.getElem_cons_succ, List.setIfInBounds_toArray, List.set_cons_zero, List.set_cons_succ]
    refine wpAnyH_take (i := 18) (v := ?_) rfl (by kernel_rfl) (by kernel_rfl) (by kernel_rfl) (fun _ _ _ h => h) (Or.inl ⟨by rfl, ?_⟩) hS1 ?_
    rotate_left
    · intro w hSw
      obtain ⟨hxw, hww⟩ := hSw
      obtain ⟨hcw, hfw⟩ := row_facts hxw
      go_simp
      rfl
    simp only [Act.put, List.getElem_toArray, List.getElem_cons_zero, List.getElem_cons_succ, List.setIfInBounds_toArray, List.set_cons_zero, List.set_cons_succ]
    refine wpAnyH_done (by kernel_rfl) (NoPanic.normal ?_) _
    go_wp2
    go_ret2
    exact ⟨rfl, HB3⟩

end Go.Proofs.YtfodloepkgkilaaDoor.EventB
