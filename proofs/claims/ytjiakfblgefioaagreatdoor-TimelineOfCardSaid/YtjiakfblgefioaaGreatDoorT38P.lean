/-
  WHAT IS PROVED: the document's lines of entries, and which of them were taken back, are the program's. Condition: the entries' bytes are not longer, and there are not more entries, than the theorem says.
-/
import Derived.Test.YtjiakfblgefioaaGreatDoorT38O
namespace Go.Proofs.YtjiakfblgefioaaGreatDoor.T38P
open Go Go.RowKit Go.Shelf Go.Proofs.YtjiakfblgefioaaGreatDoor Go.Proofs.YtjiakfblgefioaaGreatDoor.OctetS Go.Proofs.YtjiakfblgefioaaGreatDoor.IdentS Go.Proofs.YtjiakfblgefioaaGreatDoor.EventS Go.Proofs.YtjiakfblgefioaaGreatDoor.ShaS Go.Proofs.YtjiakfblgefioaaGreatDoor.RedactS Go.Proofs.YtjiakfblgefioaaGreatDoor.OctP Go.Proofs.YtjiakfblgefioaaGreatDoor.IdentP Go.Proofs.YtjiakfblgefioaaGreatDoor.EventP Go.Proofs.YtjiakfblgefioaaGreatDoor.EventC Go.Proofs.YtjiakfblgefioaaGreatDoor.EventR Go.Proofs.YtjiakfblgefioaaGreatDoor.Steps Go.Proofs.YtjiakfblgefioaaGreatDoor.RedA Go.Proofs.YtjiakfblgefioaaGreatDoor.RedB Go.Proofs.YtjiakfblgefioaaGreatDoor.RowsX Go.Proofs.YtjiakfblgefioaaGreatDoor.Lift Go.Proofs.YtjiakfblgefioaaGreatDoor.Tread Go.Proofs.YtjiakfblgefioaaGreatDoor.Tmsg Go.Proofs.YtjiakfblgefioaaGreatDoor.Tof Go.Proofs.YtjiakfblgefioaaGreatDoor.Tgone Go.Proofs.YtjiakfblgefioaaGreatDoor.Tlist Go.Proofs.YtjiakfblgefioaaGreatDoor.Tline Go.Proofs.YtjiakfblgefioaaGreatDoor.T38S Go.Proofs.YtjiakfblgefioaaGreatDoor.T38E Go.Proofs.YtjiakfblgefioaaGreatDoor.T38G Go.Proofs.YtjiakfblgefioaaGreatDoor.T38O
set_option linter.unusedVariables false
set_option linter.unusedSimpArgs false

def set4 (w : World) (B : Nat) (v0 v1 v2 v3 : Value) : World := (((w.setCell ⟨B, 0, none⟩ v0).setCell ⟨B, 1, none⟩ v1).setCell ⟨B, 2, none⟩ v2).setCell ⟨B, 3, none⟩ v3
theorem set4_row {w : World} {B : Nat} {x0 x1 x2 x3 : Value} {t : TypeId} (h : w.heap[B]? = some (.cells #[x0, x1, x2, x3] t (0, 0))) (v0 v1 v2 v3 : Value) :
    (set4 w B v0 v1 v2 v3).heap[B]? = some (.cells #[v0, v1, v2, v3] t (0, 0)) := by
  unfold set4
  exact heap_setCell_same (heap_setCell_same (heap_setCell_same (heap_setCell_same h _) _) _) _
theorem set4_below {n : Nat} {w0 w : World} {B : Nat} (h : Below n w0 w) (hB : n ≤ B) (v0 v1 v2 v3 : Value) : Below n w0 (set4 w B v0 v1 v2 v3) := by
  unfold set4
  exact (((h.setCell (p := ⟨B, 0, none⟩) hB _).setCell (p := ⟨B, 1, none⟩) hB _).setCell (p := ⟨B, 2, none⟩) hB _).setCell (p := ⟨B, 3, none⟩) hB _
theorem set4_far {w : World} {B c : Nat} (h : c ≠ B) (v0 v1 v2 v3 : Value) : (set4 w B v0 v1 v2 v3).heap[c]? = w.heap[c]? := by
  unfold set4
  rw [heap_setCell_far _ h, heap_setCell_far _ h, heap_setCell_far _ h, heap_setCell_far _ h]
theorem set4_cell {w : World} {B c j : Nat} {v0 v1 v2 v3 v : Value} (h : c ≠ B) (hc : w.cell? ⟨c, j, none⟩ = some v) : (set4 w B v0 v1 v2 v3).cell? ⟨c, j, none⟩ = some v := by
  unfold World.cell? at hc ⊢
  simp only [set4_far h] at hc ⊢
  exact hc

set_option maxRecDepth 100000 in
set_option maxHeartbeats 2000000 in
theorem refOf_ok (w : World) (v : Value) (L : List En) (hv : Sl w v 37 L.length (enV L)) (hb : ∀ x ∈ L, x.ev.size ≤ 140737488351232) (hL : L.length ≤ 1099511627776) :
    Calls Tryz.prog 16 #[v] w fun e w' => ∃ v', e = .returned v' ∧ AccL w w' v' (linesE L) := by
  obtain ⟨a, cap, rfl, hcap, hm⟩ := hv.form
  have hlen : L.length ≤ 9223372036854775807 := by omega
  have hiE : (Tryz.prog.info? 62).map (·.size) = some 37 := by kernel_rfl
  have HiE := Lib.hid hiE
  have HV := Lib.hid hv
  have HBnd := Lib.hid hb
  have HL := Lib.hid hL
  have Hcap := Lib.hid hcap
  have Hm := Lib.hid hm
  unfold linesE
  rw [← msgsK_all]
  clear hv hb hcap hm hiE
  go_enter Tryz.func16, Tryz.ntmps16
  go_wp2
  go_loopw [3, 11] (fun b i wr => ∃ (v : Value) (k : Nat), b = v ∧ i = .int .i64 k ∧ k ≤ L.length ∧ AccL w wr v ((msgsK L k).map (lnOf L))) (fun _ i _ => L.length - (intOf i).toNat)
  case atStart => exact ⟨_, 0, rfl, rfl, by omega, AccR.nil w⟩
  case round =>
    obtain ⟨v, k, rfl, rfl, hk, hA⟩ := hrel
    by_cases hlt : k < L.length
    · obtain ⟨x, hx⟩ : ∃ x, L[k]? = some x := ⟨_, List.getElem?_eq_getElem hlt⟩
      obtain ⟨ab, ao, rfl, hab, hc⟩ := row_cells enF (by omega) HV.out hx
      have hmem : x ∈ L := List.mem_of_getElem? hx
      have hE := fun w => event_ok w x (HBnd.out x hmem) 6
      have hc' : ∀ (j : Nat) (u : Value), x.cs.toArray.toList[j]? = some u → wr.cell? ⟨ab, ao + k * 37 + j, none⟩ = some u := fun j u hu => (hA.bel.cell (p := ⟨ab, ao + k * 37 + j, none⟩) hab).trans (hc j u hu)
      have hcsz : x.cs.toArray.size = 37 := by simp [en_len]
      have hone : x.cs.toArray.all (·.oneCell') = true := by
        rw [Array.all_eq_true_iff_forall_mem]
        intro u hu
        exact enF.one x u (by simpa using hu)
      have hsn := msgsK_succ L HL.out k x hx
      have hkv := kv_cases L k x
      have hixn : ixAt L k = x.ix := by unfold ixAt; rw [hx]; rfl
      have hln : ((msgsK L k).map (lnOf L)).length ≤ k := by rw [List.length_map]; exact msgsK_len L k
      obtain ⟨p, hp⟩ : ∃ p, p = x.cs.toArray := ⟨_, rfl⟩
      rw [← hp] at hc' hcsz hone hE
      have hpx : p[2]? = some (.int .i64 x.ix) := by rw [hp]; simpa using en_ix x
      have Hpx := Lib.hid hpx
      have Hixn := Lib.hid hixn
      have Hc := Lib.hid hc'
      have Hcsz := Lib.hid hcsz
      have Hone := Lib.hid hone
      have HA := Lib.hid hA
      have hlB := hA.bel.size
      clear hc hc' hcsz hone hA hp hmem hx hpx hixn
      rcases hkv with ⟨a1, a2, a3, a4, a5, a6, hkv, hom⟩ | ⟨e, hre, hkv, hom⟩
      all_goals
        rw [hkv] at hE
        rw [hom] at hsn
        have HE := Lib.hid hE
        have Hsn := Lib.hid hsn
        clear hE hsn hkv hom
        go_wp2_with (first
          | refine wpList_load_rowO rfl _ _ rfl ab (ao + k * 37) rfl p Hc.out Tryz.underlying62 rfl (by rw [Hcsz.out]; exact HiE.out) ?_
          | refine wpList_store_rowA rfl _ _ _ rfl wr.heap.size p rfl rfl _ _ (heap_new wr (.cells #[.string ⟨#[]⟩, .int .i64 0, .int .i64 0, .int .u8 0, .int .u8 0, .int .u8 0, .int .u8 0, .int .u8 0, .int .u8 0, .int .u8 0, .int .u8 0, .int .u8 0, .int .u8 0, .int .u8 0, .int .u8 0, .int .u8 0, .int .u8 0, .int .u8 0, .int .u8 0, .int .u8 0, .int .u8 0, .int .u8 0, .int .u8 0, .int .u8 0, .int .u8 0, .int .u8 0, .int .u8 0, .int .u8 0, .int .u8 0, .int .u8 0, .int .u8 0, .int .u8 0, .int .u8 0, .int .u8 0, .int .u8 0, .string ⟨#[]⟩, .string ⟨#[]⟩] 62)) (by rw [Hcsz.out]; exact HiE.out) (by rw [Hcsz.out]; rfl) Hone.out ?_)
        intro w3 hw3
        obtain ⟨hb3, hr3⟩ := Lift.row_new hw3
        have HB3 := Lib.hid hb3
        have hq3 : w3.cell? ⟨wr.heap.size, 2, none⟩ = some (.int .i64 x.ix) := by rw [cell_row hr3]; exact Hpx.out
        clear hw3 hb3
        go_wp2_with (refine wpList_load_row rfl _ _ rfl wr.heap.size rfl _ p (0, 0) _ hr3 Tryz.underlying62 rfl (by rw [Hcsz.out]; exact HiE.out) ?_)
        refine (HE.out w3).mono ?_
        rintro e' w4 ⟨rfl, hb4⟩
        have HB4 := Lib.hid (HB3.out.trans (hb4.mono HB3.out.size))
        have hq4 := below_cell hb4 hq3
        clear hb4 hr3 hq3
      · go_wp2_with fail
        obtain ⟨w6, hw6⟩ : ∃ w6, w6 = w4.alloc (.cells #[.string a1, .string a2, .int .u8 a3, .string a4, .string a5, .int .i64 a6] 56) := ⟨_, rfl⟩
        have hb6 : Below w4.heap.size w4 w6 := by rw [hw6]; exact (Below.refl _ _).alloc (Nat.le_refl _) _
        have HB6 := Lib.hid (HB4.out.trans (hb6.mono HB4.out.size))
        rw [← hw6]
        clear hw6 hb6
        go_wp2
        go_roundw
        case rel => exact ⟨_, k + 1, rfl, by go_num, by omega, by rw [Hsn.out, List.append_nil]; exact HA.out.below HB6.out⟩
        case measure => simp [intOf]; omega
      · have hgone : ∀ W, Below wr.heap.size wr W → Calls Tryz.prog 40 #[.agg #[.string (bsOf e.room), .string (bsOf e.sender), .int .u8 e.kind, .string (bsOf e.key), .string (bsOf e.body), .int .i64 e.nonce], .slice (if cap = k + 1 then some ⟨ab, ao, none⟩ else some ⟨ab, ao + (k + 1) * 37, none⟩) (L.length - (k + 1)) (cap - (k + 1))] W (RB (.bool (goneR (hex (refSum e)) (L.drop (k + 1)))) W) := fun W hW => by
          have h1 := drop_sl (HV.out.below (HA.out.bel.trans (hW.mono HA.out.bel.size))) (k := k + 1) (by omega)
          rw [show (some (if cap = k + 1 then ⟨ab, ao, none⟩ else (⟨ab, ao, none⟩ : Addr).add ((k + 1) * 37))) = (if cap = k + 1 then some ⟨ab, ao, none⟩ else some ⟨ab, ao + (k + 1) * 37, none⟩) from by split <;> rfl] at h1
          exact gone_ok W e hre _ _ h1 (fun y hy => HBnd.out y (List.mem_of_mem_drop hy)) (by rw [List.length_drop]; have := HL.out; omega)
        have he1 : IntKind.i64.wrap ((k : Int) + 1) = (k : Int) + 1 := by rw [IntKind.wrap_i64]; omega
        have He1 := Lib.hid he1
        have He2 := Lib.hid (show ((k : Int) + 1).toNat = k + 1 by omega)
        have He3 := Lib.hid (show 0 ≤ (k : Int) + 1 ∧ (k : Int) + 1 ≤ (L.length : Int) by omega)
        obtain ⟨gn, hgn⟩ : ∃ gn, gn = goneR (hex (refSum e)) (L.drop (k + 1)) := ⟨_, rfl⟩
        rw [← hgn] at hgone Hsn
        have hmp : (msgsK L (k + 1)).map (lnOf L) = (msgsK L k).map (lnOf L) ++ [⟨x.ix, bsOf e.sender, if gn then ⟨#[]⟩ else bsOf e.body, gn⟩] := by
          rw [Hsn.out, List.map_append, List.map_singleton]
          unfold lnOf
          rw [Hixn.out]
        have Hmp := Lib.hid hmp
        have Hgone := Lib.hid hgone
        clear hgone he1 hgn hre hmp Hsn
        go_wp2_with fail
        obtain ⟨w6, hw6⟩ : ∃ w6, w6 = w4.alloc (.cells #[.string (bsOf e.room), .string (bsOf e.sender), .int .u8 e.kind, .string (bsOf e.key), .string (bsOf e.body), .int .i64 e.nonce] 56) := ⟨_, rfl⟩
        have hb6 : Below w4.heap.size w4 w6 := by rw [hw6]; exact (Below.refl _ _).alloc (Nat.le_refl _) _
        have hs6 : w6.heap[w4.heap.size]? = some (.cells #[.string (bsOf e.room), .string (bsOf e.sender), .int .u8 e.kind, .string (bsOf e.key), .string (bsOf e.body), .int .i64 e.nonce] 56 (0, 0)) := by rw [hw6]; exact heap_new _ _
        have HB6 := Lib.hid (HB4.out.trans (hb6.mono HB4.out.size))
        have hq6 := below_cell hb6 hq4
        rw [← hw6]
        clear hw6 hb6 hq4
        refine wp_region_noPanic ?_
        refine wp_region_held (S := (fun W => W.heap[w4.heap.size]? = some (.cells #[.string (bsOf e.room), .string (bsOf e.sender), .int .u8 e.kind, .string (bsOf e.key), .string (bsOf e.body), .int .i64 e.nonce] 56 (0, 0)) ∧ W.cell? ⟨wr.heap.size, 2, none⟩ = some (.int .i64 x.ix))) (by kernel_rfl) ?_
        change wpAnyH _ _ _ _ _ _ _ _ (World.drew w6)
        have hS0 : (w6.drew).heap[w4.heap.size]? = some (.cells #[.string (bsOf e.room), .string (bsOf e.sender), .int .u8 e.kind, .string (bsOf e.key), .string (bsOf e.body), .int .i64 e.nonce] 56 (0, 0)) ∧ (w6.drew).cell? ⟨wr.heap.size, 2, none⟩ = some (.int .i64 x.ix) := ⟨hs6, hq6⟩
        refine wpAnyH_take (i := 0) (v := ?_) rfl (by kernel_rfl) (by kernel_rfl) (by kernel_rfl) (fun _ _ _ h => h) (Or.inl ⟨by rfl, ?_⟩) hS0 ?_
        rotate_left
        · intro wq hSw
          obtain ⟨q0, q1⟩ := hSw
          obtain ⟨qc0, qf0⟩ := row_facts q0
          go_simp
          rfl
        simp only [Act.put, List.getElem_toArray, List.getElem_cons_zero, List.getElem_cons_succ, List.setIfInBounds_toArray, List.set_cons_zero, List.set_cons_succ]
        refine wpAnyH_take (i := 1) (v := ?_) rfl (by kernel_rfl) (by kernel_rfl) (by kernel_rfl) (fun _ _ _ h => h) (Or.inl ⟨by rfl, ?_⟩) hS0 ?_
        rotate_left
        · intro wq hSw
          obtain ⟨q0, q1⟩ := hSw
          obtain ⟨qc0, qf0⟩ := row_facts q0
          go_simp
          rfl
        simp only [Act.put, List.getElem_toArray, List.getElem_cons_zero, List.getElem_cons_succ, List.setIfInBounds_toArray, List.set_cons_zero, List.set_cons_succ]
        refine wpAnyH_take (i := 2) (v := ?_) rfl (by kernel_rfl) (by kernel_rfl) (by kernel_rfl) (fun _ _ _ h => h) (Or.inl ⟨by rfl, ?_⟩) hS0 ?_
        rotate_left
        · intro wq hSw
          obtain ⟨q0, q1⟩ := hSw
          obtain ⟨qc0, qf0⟩ := row_facts q0
          go_simp
          rfl
        simp only [Act.put, List.getElem_toArray, List.getElem_cons_zero, List.getElem_cons_succ, List.setIfInBounds_toArray, List.set_cons_zero, List.set_cons_succ]
        refine wpAnyH_take (i := 3) (v := ?_) rfl (by kernel_rfl) (by kernel_rfl) (by kernel_rfl) (fun _ _ _ h => h) (Or.inl ⟨by rfl, ?_⟩) hS0 ?_
        rotate_left
        · intro wq hSw
          obtain ⟨q0, q1⟩ := hSw
          obtain ⟨qc0, qf0⟩ := row_facts q0
          go_simp
          rfl
        simp only [Act.put, List.getElem_toArray, List.getElem_cons_zero, List.getElem_cons_succ, List.setIfInBounds_toArray, List.set_cons_zero, List.set_cons_succ]
        refine wpAnyH_take (i := 4) (v := ?_) rfl (by kernel_rfl) (by kernel_rfl) (by kernel_rfl) (fun _ _ _ h => h) (Or.inl ⟨by rfl, ?_⟩) hS0 ?_
        rotate_left
        · intro wq hSw
          obtain ⟨q0, q1⟩ := hSw
          obtain ⟨qc0, qf0⟩ := row_facts q0
          go_simp
          rfl
        simp only [Act.put, List.getElem_toArray, List.getElem_cons_zero, List.getElem_cons_succ, List.setIfInBounds_toArray, List.set_cons_zero, List.set_cons_succ]
        refine wpAnyH_take (i := 5) (v := ?_) rfl (by kernel_rfl) (by kernel_rfl) (by kernel_rfl) (fun _ _ _ h => h) (Or.inl ⟨by rfl, ?_⟩) hS0 ?_
        rotate_left
        · intro wq hSw
          obtain ⟨q0, q1⟩ := hSw
          obtain ⟨qc0, qf0⟩ := row_facts q0
          go_simp
          rfl
        simp only [Act.put, List.getElem_toArray, List.getElem_cons_zero, List.getElem_cons_succ, List.setIfInBounds_toArray, List.set_cons_zero, List.set_cons_succ]
        refine wpAnyH_take (i := 6) (v := ?_) rfl (by kernel_rfl) (by kernel_rfl) (by kernel_rfl) (fun _ _ _ h => h) (Or.inl ⟨by rfl, ?_⟩) hS0 ?_
        rotate_left
        · intro wq hSw
          obtain ⟨q0, q1⟩ := hSw
          obtain ⟨qc0, qf0⟩ := row_facts q0
          go_simp
          rfl
        simp only [Act.put, List.getElem_toArray, List.getElem_cons_zero, List.getElem_cons_succ, List.setIfInBounds_toArray, List.set_cons_zero, List.set_cons_succ]
        refine wpAnyH_take (i := 7) (v := ?_) rfl (by kernel_rfl) (by kernel_rfl) (by kernel_rfl) (fun _ _ _ h => h) (Or.inl ⟨by rfl, ?_⟩) hS0 ?_
        rotate_left
        · intro wq hSw
          obtain ⟨q0, q1⟩ := hSw
          obtain ⟨qc0, qf0⟩ := row_facts q0
          go_simp
          rfl
        simp only [Act.put, List.getElem_toArray, List.getElem_cons_zero, List.getElem_cons_succ, List.setIfInBounds_toArray, List.set_cons_zero, List.set_cons_succ]
        refine wpAnyH_take (i := 8) (v := ?_) rfl (by kernel_rfl) (by kernel_rfl) (by kernel_rfl) (fun _ _ _ h => h) (Or.inl ⟨by rfl, ?_⟩) hS0 ?_
        rotate_left
        · intro wq hSw
          obtain ⟨q0, q1⟩ := hSw
          obtain ⟨qc0, qf0⟩ := row_facts q0
          go_simp
          rfl
        simp only [Act.put, List.getElem_toArray, List.getElem_cons_zero, List.getElem_cons_succ, List.setIfInBounds_toArray, List.set_cons_zero, List.set_cons_succ]
        refine wpAnyH_take (i := 9) (v := ?_) rfl (by kernel_rfl) (by kernel_rfl) (by kernel_rfl) (fun _ _ _ h => h) (Or.inl ⟨by rfl, ?_⟩) hS0 ?_
        rotate_left
        · intro wq hSw
          obtain ⟨q0, q1⟩ := hSw
          obtain ⟨qc0, qf0⟩ := row_facts q0
          go_simp
          rfl
        simp only [Act.put, List.getElem_toArray, List.getElem_cons_zero, List.getElem_cons_succ, List.setIfInBounds_toArray, List.set_cons_zero, List.set_cons_succ]
        refine wpAnyH_take (i := 10) (v := (.slice (if cap = k + 1 then some ⟨ab, ao, none⟩ else some ⟨ab, ao + (k + 1) * 37, none⟩) (L.length - (k + 1)) (cap - (k + 1)))) rfl (by kernel_rfl) (by kernel_rfl) (by kernel_rfl) (fun _ _ _ h => h) (Or.inl ⟨by rfl, ?_⟩) hS0 ?_
        · intro wq hSw
          obtain ⟨q0, q1⟩ := hSw
          obtain ⟨qc0, qf0⟩ := row_facts q0
          have e1 := He1.out; have e2 := He2.out; have e3 := He3.out
          go_simp
        simp only [Act.put, List.getElem_toArray, List.getElem_cons_zero, List.getElem_cons_succ, List.setIfInBounds_toArray, List.set_cons_zero, List.set_cons_succ]
        refine wpAnyH_all (rs := [11, 13]) (by kernel_rfl) (by simp) ?_
        intro i hi
        simp only [List.mem_cons, List.not_mem_nil, or_false] at hi
        rcases hi with rfl | rfl
        · refine wpOp_call rfl (by rfl) (by go_simp; first | rfl | exact ⟨⟨rfl, rfl⟩, rfl⟩ | exact ⟨rfl, rfl⟩) ?_
          refine (Hgone.out w6.drew ((HB6.out).drew)).mono ?_
          rintro e w7 ⟨rfl, hb_w7⟩
          have HB_w7 := Lib.hid (((HB6.out).drew).trans (hb_w7.mono ((HB6.out).drew).size))
          have p1_0 : (w7).heap[w4.heap.size]? = some (.cells #[.string (bsOf e.room), .string (bsOf e.sender), .int .u8 e.kind, .string (bsOf e.key), .string (bsOf e.body), .int .i64 e.nonce] 56 (0, 0)) := (hb_w7.block _ (lt_row hs6)).trans hs6
          have p1_1 : (w7).cell? ⟨wr.heap.size, 2, none⟩ = some (.int .i64 x.ix) := below_cell hb_w7 hq6
          have hS1 : (w7).heap[w4.heap.size]? = some (.cells #[.string (bsOf e.room), .string (bsOf e.sender), .int .u8 e.kind, .string (bsOf e.key), .string (bsOf e.body), .int .i64 e.nonce] 56 (0, 0)) ∧ (w7).cell? ⟨wr.heap.size, 2, none⟩ = some (.int .i64 x.ix) := ⟨p1_0, p1_1⟩
          clear hb_w7
          refine ⟨_, rfl, ?_, ?_⟩
          · exact hS1
          simp only [Act.put, List.getElem_toArray, List.getElem_cons_zero, List.getElem_cons_succ, List.setIfInBounds_toArray, List.set_cons_zero, List.set_cons_succ]
          refine wpAnyH_take (i := 12) (v := ?_) rfl (by kernel_rfl) (by kernel_rfl) (by kernel_rfl) (fun _ _ _ h => h) (Or.inl ⟨by rfl, ?_⟩) hS1 ?_
          rotate_left
          · intro wq hSw
            obtain ⟨q0, q1⟩ := hSw
            obtain ⟨qc0, qf0⟩ := row_facts q0
            go_simp
            rfl
          simp only [Act.put, List.getElem_toArray, List.getElem_cons_zero, List.getElem_cons_succ, List.setIfInBounds_toArray, List.set_cons_zero, List.set_cons_succ]
          refine wpAnyH_all (rs := [13]) (by kernel_rfl) (by simp) ?_
          intro i hi
          simp only [List.mem_cons, List.not_mem_nil, or_false] at hi
          subst hi
          refine wpOp_run rfl (by rfl) (w' := w7.alloc (.cells #[.int .i64 0, .string ⟨#[]⟩, .string ⟨#[]⟩, .bool false] 69)) (v := .pointer (some ⟨w7.heap.size, 0, none⟩)) (by go_simp; first | done | rfl) ⟨?_, ?_⟩
          · exact ⟨(heap_at p1_0 _), (below_cell ((Below.refl _ _).alloc (Nat.le_refl _) _) p1_1)⟩
          simp only [Act.put, List.getElem_toArray, List.getElem_cons_zero, List.getElem_cons_succ, List.setIfInBounds_toArray, List.set_cons_zero, List.set_cons_succ]
          refine wpAnyH_all (rs := [14]) (by kernel_rfl) (by simp) ?_
          intro i hi
          simp only [List.mem_cons, List.not_mem_nil, or_false] at hi
          subst hi
          refine wpOp_skip rfl (by rfl) (w' := w7.alloc (.cells #[.int .i64 x.ix, .string (bsOf e.sender), .string (bsOf e.body), .bool gn] 69)) (by go_simp; first | done | rfl) ?_
          obtain ⟨w8, hw_w8⟩ : ∃ w8, w8 = w7.alloc (.cells #[.int .i64 x.ix, .string (bsOf e.sender), .string (bsOf e.body), .bool gn] 69) := ⟨_, rfl⟩
          rw [← hw_w8]
          have hb_w8 : Below w7.heap.size w7 w8 := by rw [hw_w8]; exact (Below.refl _ _).alloc (Nat.le_refl _) _
          have HB_w8 := Lib.hid ((HB_w7.out).trans (hb_w8.mono (HB_w7.out).size))
          have hn_w8 : w8.heap[w7.heap.size]? = some (.cells #[.int .i64 x.ix, .string (bsOf e.sender), .string (bsOf e.body), .bool gn] 69 (0, 0)) := by rw [hw_w8]; exact heap_new' _ rfl
          have p2_0 : (w8).heap[w4.heap.size]? = some (.cells #[.string (bsOf e.room), .string (bsOf e.sender), .int .u8 e.kind, .string (bsOf e.key), .string (bsOf e.body), .int .i64 e.nonce] 56 (0, 0)) := (hb_w8.block _ (lt_row p1_0)).trans p1_0
          have p2_1 : (w8).cell? ⟨wr.heap.size, 2, none⟩ = some (.int .i64 x.ix) := below_cell hb_w8 p1_1
          have hS2 : (w8).heap[w4.heap.size]? = some (.cells #[.string (bsOf e.room), .string (bsOf e.sender), .int .u8 e.kind, .string (bsOf e.key), .string (bsOf e.body), .int .i64 e.nonce] 56 (0, 0)) ∧ (w8).cell? ⟨wr.heap.size, 2, none⟩ = some (.int .i64 x.ix) := ⟨p2_0, p2_1⟩
          clear hb_w8 hw_w8
          refine ⟨hS2, ?_⟩
          simp only [Act.put, List.getElem_toArray, List.getElem_cons_zero, List.getElem_cons_succ, List.setIfInBounds_toArray, List.set_cons_zero, List.set_cons_succ]
          refine wpAnyH_done (by kernel_rfl) (NoPanic.normal ?_) _
          have hl8 := lt_row hn_w8
          have HA8 := Lib.hid (HA.out.below HB_w8.out)
          have hz7 := HB_w7.out.size
          have hz8 := HB_w8.out.size
          have hz6 := HB6.out.size
          have hln2 := msgsK_len L k
          have hwB := HA.out.bel.size
          obtain ⟨c8, f8⟩ := row_facts hn_w8
          clear hs6 hq6
          generalize (if cap = k + 1 then some (⟨ab, ao, none⟩ : Addr) else some ⟨ab, ao + (k + 1) * 37, none⟩) = A1
          cases gn
          · go_wp2_with (refine wpList_accR tyLines lnF HA8.out ⟨x.ix, bsOf e.sender, bsOf e.body, false⟩ rfl _ _ rfl rfl #[.int .i64 x.ix, .string (bsOf e.sender), .string (bsOf e.body), .bool false] rfl _ rfl (by simp) ?hl ?hb ?go)
            case hl => unfold maxLen; omega
            case hb => omega
            case go =>
            intro v2 wz A2
            have HA2 := Lib.hid A2
            clear A2
            go_wp2
            go_roundw
            case rel => exact ⟨_, k + 1, rfl, by go_num, by omega, by rw [Hmp.out]; exact HA2.out⟩
            case measure => simp [intOf]; omega
          · go_wp2_with (refine wpList_accR tyLines lnF (accL_set HA8.out (B := w7.heap.size) (j := 2) (by omega) (fun k hk e => by have := (HA.out.own.lt k hk).2; omega) (.string ⟨#[]⟩)) ⟨x.ix, bsOf e.sender, ⟨#[]⟩, true⟩ rfl _ _ rfl rfl #[.int .i64 x.ix, .string (bsOf e.sender), .string ⟨#[]⟩, .bool true] rfl _ rfl (by simp) ?hl ?hb ?go)
            case hl => unfold maxLen; omega
            case hb => omega
            case go =>
            intro v2 wz A2
            have HA2 := Lib.hid A2
            clear A2
            go_wp2
            go_roundw
            case rel => exact ⟨_, k + 1, rfl, by go_num, by omega, by rw [Hmp.out]; exact HA2.out⟩
            case measure => simp [intOf]; omega
        · refine wpOp_run rfl (by rfl) (w' := w6.drew.alloc (.cells #[.int .i64 0, .string ⟨#[]⟩, .string ⟨#[]⟩, .bool false] 69)) (v := .pointer (some ⟨w6.heap.size, 0, none⟩)) (by go_simp; first | done | rfl) ?_
          obtain ⟨w7, hw_w7⟩ : ∃ w7, w7 = w6.drew.alloc (.cells #[.int .i64 0, .string ⟨#[]⟩, .string ⟨#[]⟩, .bool false] 69) := ⟨_, rfl⟩
          rw [← hw_w7]
          have hb_w7 : Below w6.drew.heap.size w6.drew w7 := by rw [hw_w7]; exact (Below.refl _ _).alloc (Nat.le_refl _) _
          have HB_w7 := Lib.hid (((HB6.out).drew).trans (hb_w7.mono ((HB6.out).drew).size))
          have hn_w7 : w7.heap[w6.heap.size]? = some (.cells #[.int .i64 0, .string ⟨#[]⟩, .string ⟨#[]⟩, .bool false] 69 (0, 0)) := by rw [hw_w7]; exact heap_new' _ rfl
          have p1_0 : (w7).heap[w4.heap.size]? = some (.cells #[.string (bsOf e.room), .string (bsOf e.sender), .int .u8 e.kind, .string (bsOf e.key), .string (bsOf e.body), .int .i64 e.nonce] 56 (0, 0)) := (hb_w7.block _ (lt_row hs6)).trans hs6
          have p1_1 : (w7).cell? ⟨wr.heap.size, 2, none⟩ = some (.int .i64 x.ix) := below_cell hb_w7 hq6
          have hS1 : (w7).heap[w4.heap.size]? = some (.cells #[.string (bsOf e.room), .string (bsOf e.sender), .int .u8 e.kind, .string (bsOf e.key), .string (bsOf e.body), .int .i64 e.nonce] 56 (0, 0)) ∧ (w7).cell? ⟨wr.heap.size, 2, none⟩ = some (.int .i64 x.ix) := ⟨p1_0, p1_1⟩
          clear hb_w7 hw_w7
          refine ⟨hS1, ?_⟩
          simp only [Act.put, List.getElem_toArray, List.getElem_cons_zero, List.getElem_cons_succ, List.setIfInBounds_toArray, List.set_cons_zero, List.set_cons_succ]
          refine wpAnyH_all (rs := [11]) (by kernel_rfl) (by simp) ?_
          intro i hi
          simp only [List.mem_cons, List.not_mem_nil, or_false] at hi
          subst hi
          refine wpOp_call rfl (by rfl) (by go_simp; first | rfl | exact ⟨⟨rfl, rfl⟩, rfl⟩ | exact ⟨rfl, rfl⟩) ?_
          refine (Hgone.out w7 (HB_w7.out)).mono ?_
          rintro e w8 ⟨rfl, hb_w8⟩
          have HB_w8 := Lib.hid ((HB_w7.out).trans (hb_w8.mono (HB_w7.out).size))
          have hz8 := (hb_w8.block _ (lt_row hn_w7)).trans hn_w7
          have p2_0 : (w8).heap[w4.heap.size]? = some (.cells #[.string (bsOf e.room), .string (bsOf e.sender), .int .u8 e.kind, .string (bsOf e.key), .string (bsOf e.body), .int .i64 e.nonce] 56 (0, 0)) := (hb_w8.block _ (lt_row p1_0)).trans p1_0
          have p2_1 : (w8).cell? ⟨wr.heap.size, 2, none⟩ = some (.int .i64 x.ix) := below_cell hb_w8 p1_1
          have hS2 : (w8).heap[w4.heap.size]? = some (.cells #[.string (bsOf e.room), .string (bsOf e.sender), .int .u8 e.kind, .string (bsOf e.key), .string (bsOf e.body), .int .i64 e.nonce] 56 (0, 0)) ∧ (w8).cell? ⟨wr.heap.size, 2, none⟩ = some (.int .i64 x.ix) := ⟨p2_0, p2_1⟩
          clear hb_w8
          refine ⟨_, rfl, ?_, ?_⟩
          · exact hS2
          simp only [Act.put, List.getElem_toArray, List.getElem_cons_zero, List.getElem_cons_succ, List.setIfInBounds_toArray, List.set_cons_zero, List.set_cons_succ]
          refine wpAnyH_take (i := 12) (v := ?_) rfl (by kernel_rfl) (by kernel_rfl) (by kernel_rfl) (fun _ _ _ h => h) (Or.inl ⟨by rfl, ?_⟩) hS2 ?_
          rotate_left
          · intro wq hSw
            obtain ⟨q0, q1⟩ := hSw
            obtain ⟨qc0, qf0⟩ := row_facts q0
            go_simp
            rfl
          simp only [Act.put, List.getElem_toArray, List.getElem_cons_zero, List.getElem_cons_succ, List.setIfInBounds_toArray, List.set_cons_zero, List.set_cons_succ]
          refine wpAnyH_all (rs := [14]) (by kernel_rfl) (by simp) ?_
          intro i hi
          simp only [List.mem_cons, List.not_mem_nil, or_false] at hi
          subst hi
          obtain ⟨cz8, fz8⟩ := row_facts hz8
          have lz8 := lt_row hz8
          have ls6 := lt_row hs6
          have lq6 := HB3.out.size
          refine wpOp_skip rfl (by rfl) (w' := (((w8.setCell ⟨w6.heap.size, 0, none⟩ (.int .i64 x.ix)).setCell ⟨w6.heap.size, 1, none⟩ (.string (bsOf e.sender))).setCell ⟨w6.heap.size, 2, none⟩ (.string (bsOf e.body))).setCell ⟨w6.heap.size, 3, none⟩ (.bool gn)) (by go_simp; first | done | rfl) ?_
          obtain ⟨w9, hw9⟩ : ∃ w9, w9 = set4 w8 w6.heap.size (.int .i64 x.ix) (.string (bsOf e.sender)) (.string (bsOf e.body)) (.bool gn) := ⟨_, rfl⟩
          change _ ∧ _
          rw [show (((w8.setCell ⟨w6.heap.size, 0, none⟩ (.int .i64 x.ix)).setCell ⟨w6.heap.size, 1, none⟩ (.string (bsOf e.sender))).setCell ⟨w6.heap.size, 2, none⟩ (.string (bsOf e.body))).setCell ⟨w6.heap.size, 3, none⟩ (.bool gn) = w9 from hw9.symm]
          have hn_w9 : w9.heap[w6.heap.size]? = some (.cells #[.int .i64 x.ix, .string (bsOf e.sender), .string (bsOf e.body), .bool gn] 69 (0, 0)) := by rw [hw9]; exact set4_row hz8 ..
          have HB_w9 := Lib.hid (show Below wr.heap.size wr w9 by rw [hw9]; exact set4_below HB_w8.out (by have := HB6.out.size; omega) ..)
          have r0 : w9.heap[w4.heap.size]? = some (.cells #[.string (bsOf e.room), .string (bsOf e.sender), .int .u8 e.kind, .string (bsOf e.key), .string (bsOf e.body), .int .i64 e.nonce] 56 (0, 0)) := by rw [hw9, set4_far (by omega)]; exact p2_0
          have r1 : w9.cell? ⟨wr.heap.size, 2, none⟩ = some (.int .i64 x.ix) := by rw [hw9]; exact set4_cell (by have := HB4.out.size; omega) p2_1
          refine ⟨⟨r0, r1⟩, ?_⟩
          simp only [Act.put, List.getElem_toArray, List.getElem_cons_zero, List.getElem_cons_succ, List.setIfInBounds_toArray, List.set_cons_zero, List.set_cons_succ]
          clear hw9 cz8 fz8 hz8 r0 r1
          refine wpAnyH_done (by kernel_rfl) (NoPanic.normal ?_) _
          have hl8 := lt_row hn_w9
          have HA8 := Lib.hid (HA.out.below HB_w9.out)
          have hz7 := HB_w7.out.size
          have hz8 := HB_w9.out.size
          have hz6 := HB6.out.size
          have hln2 := msgsK_len L k
          have hwB := HA.out.bel.size
          obtain ⟨c8, f8⟩ := row_facts hn_w9
          clear hs6 hq6
          generalize (if cap = k + 1 then some (⟨ab, ao, none⟩ : Addr) else some ⟨ab, ao + (k + 1) * 37, none⟩) = A1
          cases gn
          · go_wp2_with (refine wpList_accR tyLines lnF HA8.out ⟨x.ix, bsOf e.sender, bsOf e.body, false⟩ rfl _ _ rfl rfl #[.int .i64 x.ix, .string (bsOf e.sender), .string (bsOf e.body), .bool false] rfl _ rfl (by simp) ?hl ?hb ?go)
            case hl => unfold maxLen; omega
            case hb => omega
            case go =>
            intro v2 wz A2
            have HA2 := Lib.hid A2
            clear A2
            go_wp2
            go_roundw
            case rel => exact ⟨_, k + 1, rfl, by go_num, by omega, by rw [Hmp.out]; exact HA2.out⟩
            case measure => simp [intOf]; omega
          · go_wp2_with (refine wpList_accR tyLines lnF (accL_set HA8.out (B := w6.heap.size) (j := 2) (by omega) (fun k hk e => by have := (HA.out.own.lt k hk).2; omega) (.string ⟨#[]⟩)) ⟨x.ix, bsOf e.sender, ⟨#[]⟩, true⟩ rfl _ _ rfl rfl #[.int .i64 x.ix, .string (bsOf e.sender), .string ⟨#[]⟩, .bool true] rfl _ rfl (by simp) ?hl ?hb ?go)
            case hl => unfold maxLen; omega
            case hb => omega
            case go =>
            intro v2 wz A2
            have HA2 := Lib.hid A2
            clear A2
            go_wp2
            go_roundw
            case rel => exact ⟨_, k + 1, rfl, by go_num, by omega, by rw [Hmp.out]; exact HA2.out⟩
            case measure => simp [intOf]; omega
    · obtain rfl : k = L.length := by omega
      have HA := Lib.hid hA
      clear hA
      go_wp2
      go_ret
      exact ⟨_, rfl, HA.out⟩

end Go.Proofs.YtjiakfblgefioaaGreatDoor.T38P
