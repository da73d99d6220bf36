/-
  WHAT IS PROVED: the document says that a right event was taken back by entries, just if one of them is a redaction that has its digits. Condition: the entries' bytes are not longer than the theorem says.
-/
import Derived.Test.YtjiakfblgefioaaGreatDoorT38E
import Derived.Test.YtjiakfblgefioaaGreatDoorT38H
import Derived.Test.YtjiakfblgefioaaGreatDoorR3A
namespace Go.Proofs.YtjiakfblgefioaaGreatDoor.T38G
open Go Go.RowKit Go.Shelf Go.Proofs.YtjiakfblgefioaaGreatDoor Go.Proofs.YtjiakfblgefioaaGreatDoor.OctetS Go.Proofs.YtjiakfblgefioaaGreatDoor.IdentS Go.Proofs.YtjiakfblgefioaaGreatDoor.EventS Go.Proofs.YtjiakfblgefioaaGreatDoor.ShaS Go.Proofs.YtjiakfblgefioaaGreatDoor.RedactS Go.Proofs.YtjiakfblgefioaaGreatDoor.OctP Go.Proofs.YtjiakfblgefioaaGreatDoor.IdentP Go.Proofs.YtjiakfblgefioaaGreatDoor.EventP Go.Proofs.YtjiakfblgefioaaGreatDoor.EventC Go.Proofs.YtjiakfblgefioaaGreatDoor.EventR Go.Proofs.YtjiakfblgefioaaGreatDoor.ShaA Go.Proofs.YtjiakfblgefioaaGreatDoor.ShaB Go.Proofs.YtjiakfblgefioaaGreatDoor.Steps Go.Proofs.YtjiakfblgefioaaGreatDoor.RedA Go.Proofs.YtjiakfblgefioaaGreatDoor.RedB Go.Proofs.YtjiakfblgefioaaGreatDoor.RowsX Go.Proofs.YtjiakfblgefioaaGreatDoor.Lift Go.Proofs.YtjiakfblgefioaaGreatDoor.Tread Go.Proofs.YtjiakfblgefioaaGreatDoor.Thex Go.Proofs.YtjiakfblgefioaaGreatDoor.T38S Go.Proofs.YtjiakfblgefioaaGreatDoor.T38E Go.Proofs.YtjiakfblgefioaaGreatDoor.T38H
set_option linter.unusedVariables false
set_option linter.unusedSimpArgs false

theorem toList_ne {l m : List UInt8} (h : l ≠ m) : ((bsOf l).toList == (bsOf m).toList) = false := by
  apply str_ne
  intro e
  exact h (by rw [← bl_bsOf l, ← bl_bsOf m, e])
theorem kv_form (s : List UInt8) (x : En) : ∃ (a1 a2 : ByteArray) (a3 : Int) (a4 a5 : ByteArray) (a6 : Int) (t : Bool), evKV 7 (EventS.parse (bl x.ev)) = .tuple #[.agg #[.string a1, .string a2, .int .u8 a3, .string a4, .string a5, .int .i64 a6], .bool t] ∧ takes s x = (t && (a5.toList == (bsOf s).toList)) := by
  unfold takes
  cases EventS.parse (bl x.ev) with
  | none => exact ⟨_, _, _, _, _, _, _, rfl, rfl⟩
  | some r =>
    refine ⟨_, _, _, _, _, _, _, rfl, ?_⟩
    by_cases h : r.body = s
    · simp [h]
      rfl
    · rw [toList_ne h]
      simp [h]

set_option maxRecDepth 100000 in
set_option maxHeartbeats 8000000 in
theorem gone_ok (w : World) (e : Ev) (hr : Right e) (v : Value) (L : List En) (hv : Sl w v 37 L.length (enV L)) (hb : ∀ x ∈ L, x.ev.size ≤ 140737488351232) (hL : L.length ≤ 1099511627776) :
    Calls Tryz.prog 40 #[.agg #[.string (bsOf e.room), .string (bsOf e.sender), .int .u8 e.kind, .string (bsOf e.key), .string (bsOf e.body), .int .i64 e.nonce], v] w (RB (.bool (goneR (hex (refSum e)) L)) w) := by
  obtain ⟨a, cap, rfl, hcap, hm⟩ := hv.form
  have hlen : L.length ≤ 9223372036854775807 := by omega
  have hchk : checkB e = true := check_iff.2 hr
  obtain ⟨k0, k9⟩ := known_spec hr.kind
  have hbl : bl (bsOf e.room) = e.room ∧ bl (bsOf e.sender) = e.sender ∧ bl (bsOf e.key) = e.key ∧ bl (bsOf e.body) = e.body := ⟨bl_bsOf _, bl_bsOf _, bl_bsOf _, bl_bsOf _⟩
  have hev : evOf (bsOf e.room) (bsOf e.sender) e.kind (bsOf e.key) (bsOf e.body) e.nonce = e := by
    unfold evOf
    rw [hbl.1, hbl.2.1, hbl.2.2.1, hbl.2.2.2]
  have b1 : (bsOf e.room).size ≤ 140737488351232 := by rw [size_bsOf]; have h5 : e.room.length ≤ 20 := room_length hr.room; omega
  have b2 : (bsOf e.sender).size ≤ 140737488351232 := by rw [size_bsOf]; have h5 : e.sender.length ≤ 20 := user_length hr.sender; omega
  have b3 : (bsOf e.key).size ≤ 140737488351232 := by rw [size_bsOf]; have h5 : e.key.length ≤ 20 := hr.key_length; omega
  have b4 : (bsOf e.body).size ≤ maxLen := by rw [size_bsOf]; have h5 : e.body.length ≤ 512 := hr.body; unfold maxLen; omega
  have hR := fun w => R3A.Ref_ok w (bsOf e.room) (bsOf e.sender) e.kind (bsOf e.key) (bsOf e.body) e.nonce (by omega) (by omega) b1 b2 b3 b4
  rw [hev] at hR
  unfold refV at hR
  rw [hchk, if_pos rfl] at hR
  obtain ⟨lr, hlr⟩ : ∃ lr, lr = refSum e := ⟨_, rfl⟩
  have hl32 : lr.length = 32 := by rw [hlr]; exact refSum_length e
  rw [← hlr] at hR ⊢
  unfold hV evV at hR
  have hhex := fun w => refHex_ok w lr hl32
  have hi : (Tryz.prog.info? 60).map (·.size) = some 32 := by kernel_rfl
  have HIs := Lib.hid (show (Tryz.prog.info? 60).map (·.size) = some (pB 32 lr).size by rw [pB_size (by omega)]; exact hi)
  have HL32 := Lib.hid hl32
  have hiE : (Tryz.prog.info? 62).map (·.size) = some 37 := by kernel_rfl
  have HiE := Lib.hid hiE
  obtain ⟨s, hs⟩ : ∃ s, s = hex lr := ⟨_, rfl⟩
  rw [← hs] at hhex ⊢
  have HR := Lib.hid hR
  have Hhex := Lib.hid hhex
  have HV := Lib.hid hv
  have HBnd := Lib.hid hb
  obtain ⟨w0, hw0⟩ : ∃ w0, w0 = w.alloc (.cells #[.string (bsOf e.room), .string (bsOf e.sender), .int .u8 e.kind, .string (bsOf e.key), .string (bsOf e.body), .int .i64 e.nonce] 56) := ⟨_, rfl⟩
  have hB0 : Below w.heap.size w w0 := by rw [hw0]; exact (Below.refl _ w).alloc (Nat.le_refl _) _
  have HB0 := Lib.hid hB0
  have Hw0 := Lib.hid hw0
  clear hv hb hcap hm hR hhex hlr hev hbl b1 b2 b3 b4 hi hiE hl32 hchk hs hB0 hw0 k0 k9 hr
  go_enter Tryz.func40, Tryz.ntmps40
  go_wp2_with fail
  rw [← Hw0.out]
  refine (HR.out w0).mono ?_
  rintro e' w1 ⟨rfl, hb1⟩
  have HB1 := Lib.hid (HB0.out.trans (hb1.mono HB0.out.size))
  clear hb1
  go_wp2_with (refine wpList_store_rowA rfl _ _ _ rfl w1.heap.size (pB 32 lr) rfl rfl _ _ (heap_new _ _) HIs.out (by rw [pB_size (Nat.le_of_eq HL32.out)]; rfl) (pB_one _ _) ?_)
  intro w2 hw2
  obtain ⟨hb2, hr2⟩ := Lift.row_new hw2
  have HX2 := Lib.hid hr2
  have HB2 := Lib.hid (HB1.out.trans (hb2.mono HB1.out.size))
  have hl2 := lt_row hr2
  clear hw2 hb2 hr2
  go_wp2
  go_loopw [18] (fun i wr => ∃ k : Nat, i = .int .i64 k ∧ k ≤ L.length ∧ Below w2.heap.size w2 wr ∧ goneR s (L.take k) = false) (fun i _ => L.length - (intOf i).toNat)
  case atStart => exact ⟨0, rfl, by omega, Below.refl _ _, rfl⟩
  case round =>
    obtain ⟨k, rfl, hk, hBl, hG⟩ := hrel
    by_cases hlt : k < L.length
    · obtain ⟨x, hx⟩ : ∃ x, L[k]? = some x := ⟨_, List.getElem?_eq_getElem hlt⟩
      obtain ⟨ab, ao, rfl, hab, hc⟩ := row_cells enF (by omega) HV.out hx
      have hmem : x ∈ L := List.mem_of_getElem? hx
      have hE := fun w => event_ok w x (HBnd.out x hmem) 7
      obtain ⟨a1, a2, a3, a4, a5, a6, t, hkv, htk⟩ := kv_form s x
      rw [hkv] at hE
      have hc' : ∀ (j : Nat) (u : Value), x.cs.toArray.toList[j]? = some u → wr.cell? ⟨ab, ao + k * 37 + j, none⟩ = some u := fun j u hu => ((HB2.out.trans (hBl.mono HB2.out.size)).cell (p := ⟨ab, ao + k * 37 + j, none⟩) hab).trans (hc j u hu)
      have hcsz : x.cs.toArray.size = 37 := by simp [en_len]
      have hone : x.cs.toArray.all (·.oneCell') = true := by
        rw [Array.all_eq_true_iff_forall_mem]
        intro u hu
        exact enF.one x u (by simpa using hu)
      have hsn : goneR s (L.take (k + 1)) = takes s x := by
        obtain ⟨_, hx'⟩ := List.getElem?_eq_some_iff.1 hx
        unfold goneR at hG ⊢
        rw [List.take_succ_eq_append_getElem hlt, hx', List.any_append, hG]
        simp
      have hall : takes s x = true → goneR s L = true := fun h => by
        unfold goneR
        rw [List.any_eq_true]
        exact ⟨x, hmem, h⟩
      rw [htk] at hsn hall
      obtain ⟨p, hp⟩ : ∃ p, p = x.cs.toArray := ⟨_, rfl⟩
      rw [← hp] at hc' hcsz hone hE
      have Hc := Lib.hid hc'
      have Hcsz := Lib.hid hcsz
      have Hone := Lib.hid hone
      have HE := Lib.hid hE
      have HBl := Lib.hid hBl
      have hlB := hBl.size
      have Hsn := Lib.hid hsn
      have Hall := Lib.hid hall
      clear hc hc' hcsz hone hBl hx hp hmem hE hkv htk hsn hall hG
      go_wp2_with (first
        | refine wpList_load_rowO rfl _ _ rfl ab (ao + k * 37) rfl p Hc.out Tryz.underlying62 rfl (by rw [Hcsz.out]; exact HiE.out) ?_
        | refine wpList_store_rowA rfl _ _ _ rfl wr.heap.size p rfl rfl _ _ (heap_new wr (.cells #[.string ⟨#[]⟩, .int .i64 0, .int .i64 0, .int .u8 0, .int .u8 0, .int .u8 0, .int .u8 0, .int .u8 0, .int .u8 0, .int .u8 0, .int .u8 0, .int .u8 0, .int .u8 0, .int .u8 0, .int .u8 0, .int .u8 0, .int .u8 0, .int .u8 0, .int .u8 0, .int .u8 0, .int .u8 0, .int .u8 0, .int .u8 0, .int .u8 0, .int .u8 0, .int .u8 0, .int .u8 0, .int .u8 0, .int .u8 0, .int .u8 0, .int .u8 0, .int .u8 0, .int .u8 0, .int .u8 0, .int .u8 0, .string ⟨#[]⟩, .string ⟨#[]⟩] 62)) (by rw [Hcsz.out]; exact HiE.out) (by rw [Hcsz.out]; rfl) Hone.out ?_)
      intro w3 hw3
      obtain ⟨hb3, hr3⟩ := Lift.row_new hw3
      have HB3 := Lib.hid (HBl.out.trans (hb3.mono HBl.out.size))
      have hX3 := (hb3.block _ (by omega)).trans ((HBl.out.block _ hl2).trans HX2.out)
      have hlX := lt_row hX3
      clear hw3 hb3
      go_wp2_with (refine wpList_load_row rfl _ _ rfl wr.heap.size rfl _ p (0, 0) _ hr3 Tryz.underlying62 rfl (by rw [Hcsz.out]; exact HiE.out) ?_)
      refine (HE.out w3).mono ?_
      rintro e' w4 ⟨rfl, hb4⟩
      have hX4 := (hb4.block _ hlX).trans hX3
      have HB4 := Lib.hid (HB3.out.trans (hb4.mono HB3.out.size))
      clear hb4 hX3 hr3 hlX
      cases t
      · go_wp2_with fail
        obtain ⟨w6, hw6⟩ : ∃ w6, w6 = w4.alloc (.cells #[.string a1, .string a2, .int .u8 a3, .string a4, .string a5, .int .i64 a6] 56) := ⟨_, rfl⟩
        have hb6 : Below w4.heap.size w4 w6 := by rw [hw6]; exact (Below.refl _ _).alloc (Nat.le_refl _) _
        have HB6 := Lib.hid (HB4.out.trans (hb6.mono HB4.out.size))
        rw [← hw6]
        clear hw6 hb6 hX4
        go_quiet (fail)
        go_wp2
        go_roundw
        case rel => exact ⟨k + 1, by go_num, by omega, Bl.drewN HB6.out _, by rw [Hsn.out]; rfl⟩
        case measure => simp [intOf]; omega
      · go_wp2_with fail
        obtain ⟨w6, hw6⟩ : ∃ w6, w6 = w4.alloc (.cells #[.string a1, .string a2, .int .u8 a3, .string a4, .string a5, .int .i64 a6] 56) := ⟨_, rfl⟩
        have hb6 : Below w4.heap.size w4 w6 := by rw [hw6]; exact (Below.refl _ _).alloc (Nat.le_refl _) _
        have hs6 : w6.heap[w4.heap.size]? = some (.cells #[.string a1, .string a2, .int .u8 a3, .string a4, .string a5, .int .i64 a6] 56 (0, 0)) := by rw [hw6]; exact heap_new _ _
        have HB6 := Lib.hid (HB4.out.trans (hb6.mono HB4.out.size))
        have hX6 := (hb6.block _ (lt_row hX4)).trans hX4
        rw [← hw6]
        clear hw6 hb6 hX4
        refine Uniform.region_chain (S := (fun W => W.heap[w4.heap.size]? = some (.cells #[.string a1, .string a2, .int .u8 a3, .string a4, .string a5, .int .i64 a6] 56 (0, 0)) ∧ W.heap[w1.heap.size]? = some (.cells (pB 32 lr) 60 (0, 0)) ∧ Below w2.heap.size w2 W)) (List.range 8) (by kernel_rfl) (by kernel_rfl) ⟨hs6, hX6, (HB6.out).drew⟩ ?_
        refine ⟨_, ?_, rfl, Or.inl ⟨by rfl, fun wq hSw => Uniform.UStep.value (w' := wq) ?_ hSw⟩, ?_⟩
        rotate_left
        · obtain ⟨q0, q1, q2⟩ := hSw
          obtain ⟨qc0, qf0⟩ := row_facts q0
          go_simp
          rfl
        simp only [Act.put, List.getElem_toArray, List.getElem_cons_zero, List.getElem_cons_succ, List.setIfInBounds_toArray, List.set_cons_zero, List.set_cons_succ]
        refine ⟨_, ?_, rfl, Or.inl ⟨by rfl, fun wq hSw => Uniform.UStep.value (w' := wq) ?_ hSw⟩, ?_⟩
        rotate_left
        · obtain ⟨q0, q1, q2⟩ := hSw
          obtain ⟨qc0, qf0⟩ := row_facts q0
          go_simp
          rfl
        simp only [Act.put, List.getElem_toArray, List.getElem_cons_zero, List.getElem_cons_succ, List.setIfInBounds_toArray, List.set_cons_zero, List.set_cons_succ]
        refine ⟨_, ?_, rfl, Or.inl ⟨by rfl, fun wq hSw => Uniform.UStep.value (w' := wq) ?_ hSw⟩, ?_⟩
        rotate_left
        · obtain ⟨q0, q1, q2⟩ := hSw
          obtain ⟨qc0, qf0⟩ := row_facts q0
          go_simp
          rfl
        simp only [Act.put, List.getElem_toArray, List.getElem_cons_zero, List.getElem_cons_succ, List.setIfInBounds_toArray, List.set_cons_zero, List.set_cons_succ]
        refine ⟨_, ?_, rfl, Or.inl ⟨by rfl, fun wq hSw => Uniform.UStep.value (w' := wq) ?_ hSw⟩, ?_⟩
        rotate_left
        · obtain ⟨q0, q1, q2⟩ := hSw
          obtain ⟨qc0, qf0⟩ := row_facts q0
          go_simp
          rfl
        simp only [Act.put, List.getElem_toArray, List.getElem_cons_zero, List.getElem_cons_succ, List.setIfInBounds_toArray, List.set_cons_zero, List.set_cons_succ]
        refine ⟨_, _, rfl, Or.inl ⟨by rfl, fun wq hSw => Uniform.UStep.value (w' := wq) (EqHash.exec_load_row 60 _ rfl _ rfl hSw.2.1 Tryz.underlying60 rfl HIs.out) hSw⟩, ?_⟩
        simp only [Act.put, List.getElem_toArray, List.getElem_cons_zero, List.getElem_cons_succ, List.setIfInBounds_toArray, List.set_cons_zero, List.set_cons_succ]
        refine ⟨_, ?_, rfl, Or.inl ⟨by rfl, fun wq hSw => Uniform.UStep.call (w' := wq) ?_ ((Hhex.out wq).mono ?_)⟩, ?_⟩
        rotate_left
        · obtain ⟨q0, q1, q2⟩ := hSw
          obtain ⟨qc0, qf0⟩ := row_facts q0
          go_simp
          first | done | rfl | exact ⟨⟨rfl, rfl⟩, rfl⟩ | exact ⟨rfl, rfl⟩
        · have hSk := hSw
          obtain ⟨q0, q1, q2⟩ := hSw
          rintro e wq2 ⟨rfl, hbq⟩
          refine ⟨?_, (hbq.block _ (lt_row q0)).trans q0, (hbq.block _ (lt_row q1)).trans q1, q2.trans (hbq.mono q2.size)⟩
          rfl
        simp only [Act.put, List.getElem_toArray, List.getElem_cons_zero, List.getElem_cons_succ, List.setIfInBounds_toArray, List.set_cons_zero, List.set_cons_succ]
        refine ⟨_, ?_, rfl, Or.inl ⟨by rfl, fun wq hSw => Uniform.UStep.value (w' := wq) ?_ hSw⟩, ?_⟩
        rotate_left
        · obtain ⟨q0, q1, q2⟩ := hSw
          obtain ⟨qc0, qf0⟩ := row_facts q0
          go_simp
          rfl
        simp only [Act.put, List.getElem_toArray, List.getElem_cons_zero, List.getElem_cons_succ, List.setIfInBounds_toArray, List.set_cons_zero, List.set_cons_succ]
        refine ⟨_, ?_, rfl, Or.inl ⟨by rfl, fun wq hSw => Uniform.UStep.value (w' := wq) ?_ hSw⟩, ?_⟩
        rotate_left
        · obtain ⟨q0, q1, q2⟩ := hSw
          obtain ⟨qc0, qf0⟩ := row_facts q0
          go_simp
          rfl
        simp only [Act.put, List.getElem_toArray, List.getElem_cons_zero, List.getElem_cons_succ, List.setIfInBounds_toArray, List.set_cons_zero, List.set_cons_succ]
        intro w7 ⟨hs7, hX7, hB7⟩
        have HB7 := Lib.hid hB7
        clear hs7 hX7 hB7
        cases hq : (a5.toList == (bsOf s).toList)
        · rw [hq] at Hsn Hall
          go_wp2
          go_roundw
          case rel => exact ⟨k + 1, by go_num, by omega, HB7.out, by rw [Hsn.out]; rfl⟩
          case measure => simp [intOf]; omega
        · rw [hq] at Hsn Hall
          go_wp2
          go_ret
          exact ⟨by rw [Hall.out rfl]; rfl, HB2.out.trans (HB7.out.mono HB2.out.size)⟩
    · obtain rfl : k = L.length := by omega
      rw [List.take_length] at hG
      have HG := Lib.hid hG
      have HBl := Lib.hid hBl
      clear hG hBl
      go_wp2
      go_ret
      exact ⟨by rw [HG.out]; rfl, HB2.out.trans (HBl.out.mono HB2.out.size)⟩

end Go.Proofs.YtjiakfblgefioaaGreatDoor.T38G
