/-
  WHAT IS PROVED: the document's lines of entries, and which of them were taken back, are the program's. Condition: the entries' bytes are not longer, and there are not more entries, than the theorem says.
-/
import Derived.Test.YtjiakfblgefioaaGreatDoorT38G
import Derived.Test.YtjiakfblgefioaaGreatDoorTgone
namespace Go.Proofs.YtjiakfblgefioaaGreatDoor.T38O
open Go Go.RowKit Go.Shelf Go.Proofs.YtjiakfblgefioaaGreatDoor Go.Proofs.YtjiakfblgefioaaGreatDoor.OctetS Go.Proofs.YtjiakfblgefioaaGreatDoor.IdentS Go.Proofs.YtjiakfblgefioaaGreatDoor.EventS Go.Proofs.YtjiakfblgefioaaGreatDoor.ShaS Go.Proofs.YtjiakfblgefioaaGreatDoor.RedactS Go.Proofs.YtjiakfblgefioaaGreatDoor.OctP Go.Proofs.YtjiakfblgefioaaGreatDoor.IdentP Go.Proofs.YtjiakfblgefioaaGreatDoor.EventP Go.Proofs.YtjiakfblgefioaaGreatDoor.EventC Go.Proofs.YtjiakfblgefioaaGreatDoor.EventR Go.Proofs.YtjiakfblgefioaaGreatDoor.Steps Go.Proofs.YtjiakfblgefioaaGreatDoor.RedA Go.Proofs.YtjiakfblgefioaaGreatDoor.RedB Go.Proofs.YtjiakfblgefioaaGreatDoor.RowsX Go.Proofs.YtjiakfblgefioaaGreatDoor.Lift Go.Proofs.YtjiakfblgefioaaGreatDoor.Tread Go.Proofs.YtjiakfblgefioaaGreatDoor.Tmsg Go.Proofs.YtjiakfblgefioaaGreatDoor.Tof Go.Proofs.YtjiakfblgefioaaGreatDoor.Tgone Go.Proofs.YtjiakfblgefioaaGreatDoor.Tlist Go.Proofs.YtjiakfblgefioaaGreatDoor.Tline Go.Proofs.YtjiakfblgefioaaGreatDoor.T38S Go.Proofs.YtjiakfblgefioaaGreatDoor.T38E Go.Proofs.YtjiakfblgefioaaGreatDoor.T38G
set_option linter.unusedVariables false
set_option linter.unusedSimpArgs false

theorem kv_cases (L : List En) (k : Nat) (x : En) : (∃ (a1 a2 : ByteArray) (a3 : Int) (a4 a5 : ByteArray) (a6 : Int), evKV 6 (EventS.parse (bl x.ev)) = .tuple #[.agg #[.string a1, .string a2, .int .u8 a3, .string a4, .string a5, .int .i64 a6], .bool false] ∧ oneM L k x = []) ∨
    (∃ e : Ev, Right e ∧ evKV 6 (EventS.parse (bl x.ev)) = .tuple #[.agg #[.string (bsOf e.room), .string (bsOf e.sender), .int .u8 e.kind, .string (bsOf e.key), .string (bsOf e.body), .int .i64 e.nonce], .bool true] ∧ oneM L k x = [⟨k, e, goneR (hex (refSum e)) (L.drop (k + 1))⟩]) := by
  unfold oneM
  cases h : EventS.parse (bl x.ev) with
  | none => exact .inl ⟨_, _, _, _, _, _, rfl, rfl⟩
  | some r =>
    by_cases h6 : r.kind = 6
    · refine .inr ⟨r, (parse_ok h).1, ?_, if_pos h6⟩
      simp [evKV, evV, h6]
    · refine .inl ⟨bsOf r.room, bsOf r.sender, r.kind, bsOf r.key, bsOf r.body, r.nonce, ?_, if_neg h6⟩
      simp [evKV, evV, h6]
/-- The entries behind one. -/
theorem drop_sl {w : World} {a : Addr} {cap : Nat} {L : List En} (h : Sl w (.slice (some a) L.length cap) 37 L.length (enV L)) {k : Nat} (hk : k ≤ L.length) :
    Sl w (.slice (some (if cap = k then a else a.add (k * 37))) (L.length - k) (cap - k)) 37 (L.drop k).length (enV (L.drop k)) := by
  have h1 := h.cut (k := k) (m := L.length) hk (Nat.le_refl _) rfl
  have h2 : (enV L).length = L.length * 37 := by unfold enV; rw [enF.total]
  rw [List.take_of_length_le (by omega)] at h1
  have h3 : enV L = enV (L.take k) ++ enV (L.drop k) := by
    unfold enV
    rw [← List.flatMap_append, List.take_append_drop]
  have h4 : (enV (L.take k)).length = k * 37 := by unfold enV; rw [enF.total, List.length_take, Nat.min_eq_left hk]
  rw [h3, List.drop_left' h4] at h1
  rw [List.length_drop]
  exact h1

set_option maxRecDepth 100000 in
set_option maxHeartbeats 2000000 in
theorem refGone_ok (w : World) (v : Value) (L : List En) (hv : Sl w v 37 L.length (enV L)) (hb : ∀ x ∈ L, x.ev.size ≤ 140737488351232) (hL : L.length ≤ 1099511627776) :
    Calls Tryz.prog 19 #[v] w fun e w' => ∃ v', e = .returned v' ∧ AccI w w' v' (goneL L) := by
  obtain ⟨a, cap, rfl, hcap, hm⟩ := hv.form
  have hlen : L.length ≤ 9223372036854775807 := by omega
  have hiE : (Tryz.prog.info? 62).map (·.size) = some 37 := by kernel_rfl
  have HiE := Lib.hid hiE
  have HV := Lib.hid hv
  have HBnd := Lib.hid hb
  have HL := Lib.hid hL
  have Hcap := Lib.hid hcap
  have Hm := Lib.hid hm
  unfold goneL
  rw [← msgsK_all]
  clear hv hb hcap hm hiE
  go_enter Tryz.func19, Tryz.ntmps19
  go_wp2
  go_loopw [3, 10] (fun b i wr => ∃ (v : Value) (k : Nat), b = v ∧ i = .int .i64 k ∧ k ≤ L.length ∧ AccI w wr v (((msgsK L k).filter Mg.gone).map Mg.i)) (fun _ i _ => L.length - (intOf i).toNat)
  case atStart => exact ⟨_, 0, rfl, rfl, by omega, AccR.nil w⟩
  case round =>
    obtain ⟨v, k, rfl, rfl, hk, hA⟩ := hrel
    by_cases hlt : k < L.length
    · obtain ⟨x, hx⟩ : ∃ x, L[k]? = some x := ⟨_, List.getElem?_eq_getElem hlt⟩
      obtain ⟨ab, ao, rfl, hab, hc⟩ := row_cells enF (by omega) HV.out hx
      have hmem : x ∈ L := List.mem_of_getElem? hx
      have hE := fun w => event_ok w x (HBnd.out x hmem) 6
      have hc' : ∀ (j : Nat) (u : Value), x.cs.toArray.toList[j]? = some u → wr.cell? ⟨ab, ao + k * 37 + j, none⟩ = some u := fun j u hu => (hA.bel.cell (p := ⟨ab, ao + k * 37 + j, none⟩) hab).trans (hc j u hu)
      have hcsz : x.cs.toArray.size = 37 := by simp [en_len]
      have hone : x.cs.toArray.all (·.oneCell') = true := by
        rw [Array.all_eq_true_iff_forall_mem]
        intro u hu
        exact enF.one x u (by simpa using hu)
      have hsn := msgsK_succ L HL.out k x hx
      have hkv := kv_cases L k x
      have hln : (((msgsK L k).filter Mg.gone).map Mg.i).length ≤ k := by rw [List.length_map]; exact Nat.le_trans (List.length_filter_le _ _) (msgsK_len L k)
      obtain ⟨p, hp⟩ : ∃ p, p = x.cs.toArray := ⟨_, rfl⟩
      rw [← hp] at hc' hcsz hone hE
      have Hc := Lib.hid hc'
      have Hcsz := Lib.hid hcsz
      have Hone := Lib.hid hone
      have HA := Lib.hid hA
      have hlB := hA.bel.size
      clear hc hc' hcsz hone hA hp hmem hx
      rcases hkv with ⟨a1, a2, a3, a4, a5, a6, hkv, hom⟩ | ⟨e, hre, hkv, hom⟩
      all_goals
        rw [hkv] at hE
        rw [hom] at hsn
        have HE := Lib.hid hE
        have Hsn := Lib.hid hsn
        clear hE hsn hkv hom
        go_wp2_with (first
          | refine wpList_load_rowO rfl _ _ rfl ab (ao + k * 37) rfl p Hc.out Tryz.underlying62 rfl (by rw [Hcsz.out]; exact HiE.out) ?_
          | refine wpList_store_rowA rfl _ _ _ rfl wr.heap.size p rfl rfl _ _ (heap_new wr (.cells #[.string ⟨#[]⟩, .int .i64 0, .int .i64 0, .int .u8 0, .int .u8 0, .int .u8 0, .int .u8 0, .int .u8 0, .int .u8 0, .int .u8 0, .int .u8 0, .int .u8 0, .int .u8 0, .int .u8 0, .int .u8 0, .int .u8 0, .int .u8 0, .int .u8 0, .int .u8 0, .int .u8 0, .int .u8 0, .int .u8 0, .int .u8 0, .int .u8 0, .int .u8 0, .int .u8 0, .int .u8 0, .int .u8 0, .int .u8 0, .int .u8 0, .int .u8 0, .int .u8 0, .int .u8 0, .int .u8 0, .int .u8 0, .string ⟨#[]⟩, .string ⟨#[]⟩] 62)) (by rw [Hcsz.out]; exact HiE.out) (by rw [Hcsz.out]; rfl) Hone.out ?_)
        intro w3 hw3
        obtain ⟨hb3, hr3⟩ := Lift.row_new hw3
        have HB3 := Lib.hid hb3
        clear hw3 hb3
        go_wp2_with (refine wpList_load_row rfl _ _ rfl wr.heap.size rfl _ p (0, 0) _ hr3 Tryz.underlying62 rfl (by rw [Hcsz.out]; exact HiE.out) ?_)
        refine (HE.out w3).mono ?_
        rintro e' w4 ⟨rfl, hb4⟩
        have HB4 := Lib.hid (HB3.out.trans (hb4.mono HB3.out.size))
        clear hb4 hr3
      · go_wp2_with fail
        obtain ⟨w6, hw6⟩ : ∃ w6, w6 = w4.alloc (.cells #[.string a1, .string a2, .int .u8 a3, .string a4, .string a5, .int .i64 a6] 56) := ⟨_, rfl⟩
        have hb6 : Below w4.heap.size w4 w6 := by rw [hw6]; exact (Below.refl _ _).alloc (Nat.le_refl _) _
        have HB6 := Lib.hid (HB4.out.trans (hb6.mono HB4.out.size))
        rw [← hw6]
        clear hw6 hb6
        go_quiet (fail)
        go_wp2
        go_roundw
        case rel => exact ⟨_, k + 1, rfl, by go_num, by omega, by rw [Hsn.out, List.append_nil]; exact HA.out.below (Bl.drewN HB6.out _)⟩
        case measure => simp [intOf]; omega
      · have hgone : ∀ W, Below wr.heap.size wr W → Calls Tryz.prog 40 #[.agg #[.string (bsOf e.room), .string (bsOf e.sender), .int .u8 e.kind, .string (bsOf e.key), .string (bsOf e.body), .int .i64 e.nonce], .slice (if cap = k + 1 then some ⟨ab, ao, none⟩ else some ⟨ab, ao + (k + 1) * 37, none⟩) (L.length - (k + 1)) (cap - (k + 1))] W (RB (.bool (goneR (hex (refSum e)) (L.drop (k + 1)))) W) := fun W hW => by
          have h1 := drop_sl (HV.out.below (HA.out.bel.trans (hW.mono HA.out.bel.size))) (k := k + 1) (by omega)
          rw [show (some (if cap = k + 1 then ⟨ab, ao, none⟩ else (⟨ab, ao, none⟩ : Addr).add ((k + 1) * 37))) = (if cap = k + 1 then some ⟨ab, ao, none⟩ else some ⟨ab, ao + (k + 1) * 37, none⟩) from by split <;> rfl] at h1
          exact gone_ok W e hre _ _ h1 (fun y hy => HBnd.out y (List.mem_of_mem_drop hy)) (by rw [List.length_drop]; have := HL.out; omega)
        have he1 : IntKind.i64.wrap ((k : Int) + 1) = (k : Int) + 1 := by rw [IntKind.wrap_i64]; omega
        have He1 := Lib.hid he1
        have He2 := Lib.hid (show ((k : Int) + 1).toNat = k + 1 by omega)
        have He3 := Lib.hid (show 0 ≤ (k : Int) + 1 ∧ (k : Int) + 1 ≤ (L.length : Int) by omega)
        obtain ⟨gn, hgn⟩ : ∃ gn, gn = goneR (hex (refSum e)) (L.drop (k + 1)) := ⟨_, rfl⟩
        rw [← hgn] at hgone Hsn
        have Hgone := Lib.hid hgone
        clear hgone he1 hgn hre
        go_wp2_with fail
        obtain ⟨w6, hw6⟩ : ∃ w6, w6 = w4.alloc (.cells #[.string (bsOf e.room), .string (bsOf e.sender), .int .u8 e.kind, .string (bsOf e.key), .string (bsOf e.body), .int .i64 e.nonce] 56) := ⟨_, rfl⟩
        have hb6 : Below w4.heap.size w4 w6 := by rw [hw6]; exact (Below.refl _ _).alloc (Nat.le_refl _) _
        have hs6 : w6.heap[w4.heap.size]? = some (.cells #[.string (bsOf e.room), .string (bsOf e.sender), .int .u8 e.kind, .string (bsOf e.key), .string (bsOf e.body), .int .i64 e.nonce] 56 (0, 0)) := by rw [hw6]; exact heap_new _ _
        have HB6 := Lib.hid (HB4.out.trans (hb6.mono HB4.out.size))
        rw [← hw6]
        clear hw6 hb6
        refine Uniform.region_chain (S := (fun W => W.heap[w4.heap.size]? = some (.cells #[.string (bsOf e.room), .string (bsOf e.sender), .int .u8 e.kind, .string (bsOf e.key), .string (bsOf e.body), .int .i64 e.nonce] 56 (0, 0)) ∧ Below wr.heap.size wr W)) (List.range 9) (by kernel_rfl) (by kernel_rfl) ⟨hs6, (HB6.out).drew⟩ ?_
        refine ⟨_, ?_, rfl, Or.inl ⟨by rfl, fun wq hSw => Uniform.UStep.value (w' := wq) ?_ hSw⟩, ?_⟩
        rotate_left
        · obtain ⟨q0, q1⟩ := hSw
          obtain ⟨qc0, qf0⟩ := row_facts q0
          go_simp
          rfl
        simp only [Act.put, List.getElem_toArray, List.getElem_cons_zero, List.getElem_cons_succ, List.setIfInBounds_toArray, List.set_cons_zero, List.set_cons_succ]
        refine ⟨_, ?_, rfl, Or.inl ⟨by rfl, fun wq hSw => Uniform.UStep.value (w' := wq) ?_ hSw⟩, ?_⟩
        rotate_left
        · obtain ⟨q0, q1⟩ := hSw
          obtain ⟨qc0, qf0⟩ := row_facts q0
          go_simp
          rfl
        simp only [Act.put, List.getElem_toArray, List.getElem_cons_zero, List.getElem_cons_succ, List.setIfInBounds_toArray, List.set_cons_zero, List.set_cons_succ]
        refine ⟨_, ?_, rfl, Or.inl ⟨by rfl, fun wq hSw => Uniform.UStep.value (w' := wq) ?_ hSw⟩, ?_⟩
        rotate_left
        · obtain ⟨q0, q1⟩ := hSw
          obtain ⟨qc0, qf0⟩ := row_facts q0
          go_simp
          rfl
        simp only [Act.put, List.getElem_toArray, List.getElem_cons_zero, List.getElem_cons_succ, List.setIfInBounds_toArray, List.set_cons_zero, List.set_cons_succ]
        refine ⟨_, ?_, rfl, Or.inl ⟨by rfl, fun wq hSw => Uniform.UStep.value (w' := wq) ?_ hSw⟩, ?_⟩
        rotate_left
        · obtain ⟨q0, q1⟩ := hSw
          obtain ⟨qc0, qf0⟩ := row_facts q0
          go_simp
          rfl
        simp only [Act.put, List.getElem_toArray, List.getElem_cons_zero, List.getElem_cons_succ, List.setIfInBounds_toArray, List.set_cons_zero, List.set_cons_succ]
        refine ⟨_, ?_, rfl, Or.inl ⟨by rfl, fun wq hSw => Uniform.UStep.value (w' := wq) ?_ hSw⟩, ?_⟩
        rotate_left
        · obtain ⟨q0, q1⟩ := hSw
          obtain ⟨qc0, qf0⟩ := row_facts q0
          go_simp
          rfl
        simp only [Act.put, List.getElem_toArray, List.getElem_cons_zero, List.getElem_cons_succ, List.setIfInBounds_toArray, List.set_cons_zero, List.set_cons_succ]
        refine ⟨_, ?_, rfl, Or.inl ⟨by rfl, fun wq hSw => Uniform.UStep.value (w' := wq) ?_ hSw⟩, ?_⟩
        rotate_left
        · obtain ⟨q0, q1⟩ := hSw
          obtain ⟨qc0, qf0⟩ := row_facts q0
          go_simp
          rfl
        simp only [Act.put, List.getElem_toArray, List.getElem_cons_zero, List.getElem_cons_succ, List.setIfInBounds_toArray, List.set_cons_zero, List.set_cons_succ]
        refine ⟨_, (.slice (if cap = k + 1 then some ⟨ab, ao, none⟩ else some ⟨ab, ao + (k + 1) * 37, none⟩) (L.length - (k + 1)) (cap - (k + 1))), rfl, Or.inl ⟨by rfl, fun wq hSw => Uniform.UStep.value (w' := wq) ?_ hSw⟩, ?_⟩
        · obtain ⟨q0, q1⟩ := hSw
          obtain ⟨qc0, qf0⟩ := row_facts q0
          have e1 := He1.out; have e2 := He2.out; have e3 := He3.out
          go_simp
        simp only [Act.put, List.getElem_toArray, List.getElem_cons_zero, List.getElem_cons_succ, List.setIfInBounds_toArray, List.set_cons_zero, List.set_cons_succ]
        refine ⟨_, ?_, rfl, Or.inl ⟨by rfl, fun wq hSw => Uniform.UStep.call (w' := wq) ?_ ((Hgone.out wq (hSw.2)).mono ?_)⟩, ?_⟩
        rotate_left
        · obtain ⟨q0, q1⟩ := hSw
          obtain ⟨qc0, qf0⟩ := row_facts q0
          go_simp
          first | done | rfl | exact ⟨⟨rfl, rfl⟩, rfl⟩ | exact ⟨rfl, rfl⟩
        · have hSk := hSw
          obtain ⟨q0, q1⟩ := hSw
          rintro e wq2 ⟨rfl, hbq⟩
          refine ⟨?_, (hbq.block _ (lt_row q0)).trans q0, q1.trans (hbq.mono q1.size)⟩
          rfl
        simp only [Act.put, List.getElem_toArray, List.getElem_cons_zero, List.getElem_cons_succ, List.setIfInBounds_toArray, List.set_cons_zero, List.set_cons_succ]
        refine ⟨_, ?_, rfl, Or.inl ⟨by rfl, fun wq hSw => Uniform.UStep.value (w' := wq) ?_ hSw⟩, ?_⟩
        rotate_left
        · obtain ⟨q0, q1⟩ := hSw
          obtain ⟨qc0, qf0⟩ := row_facts q0
          go_simp
          rfl
        simp only [Act.put, List.getElem_toArray, List.getElem_cons_zero, List.getElem_cons_succ, List.setIfInBounds_toArray, List.set_cons_zero, List.set_cons_succ]
        intro w7 ⟨hs7, hB7⟩
        have HB7 := Lib.hid hB7
        have HA7 := Lib.hid (HA.out.below hB7)
        clear hs7 hB7
        generalize (if cap = k + 1 then some (⟨ab, ao, none⟩ : Addr) else some ⟨ab, ao + (k + 1) * 37, none⟩) = A1
        cases gn
        · go_wp2
          go_roundw
          case rel => exact ⟨_, k + 1, rfl, by go_num, by omega, by rw [Hsn.out]; simpa using HA7.out⟩
          case measure => simp [intOf]; omega
        · go_wp2_with (at_builtin; go_must (refine wpList_accR tyInts inFn HA7.out k rfl _ _ rfl rfl #[.int .i64 (k : Int)] rfl _ rfl (by simp) ?hl ?hb ?go))
          case hl => unfold maxLen; omega
          case hb => omega
          case go =>
          intro v2 w8 A2
          have HA2 := Lib.hid A2
          clear A2
          go_wp2
          go_roundw
          case rel => exact ⟨_, k + 1, rfl, by go_num, by omega, by rw [Hsn.out]; simpa using HA2.out⟩
          case measure => simp [intOf]; omega
    · obtain rfl : k = L.length := by omega
      have HA := Lib.hid hA
      clear hA
      go_wp2
      go_ret
      exact ⟨_, rfl, HA.out⟩

end Go.Proofs.YtjiakfblgefioaaGreatDoor.T38O
