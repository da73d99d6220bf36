/-
  WHAT IS PROVED: the lines that the program has of entries, and which of them were taken back. Condition: the variables hold what 'VarsR' says, and the entries' bytes are not longer than the theorem says.
-/
import Derived.Test.YtjiakfblgefioaaGreatDoorTmsg
import Derived.Test.YtjiakfblgefioaaGreatDoorTlist
namespace Go.Proofs.YtjiakfblgefioaaGreatDoor.Tof
open Go Go.RowKit Go.Shelf Go.Proofs.YtjiakfblgefioaaGreatDoor Go.Proofs.YtjiakfblgefioaaGreatDoor.OctetS Go.Proofs.YtjiakfblgefioaaGreatDoor.IdentS Go.Proofs.YtjiakfblgefioaaGreatDoor.EventS Go.Proofs.YtjiakfblgefioaaGreatDoor.ShaS Go.Proofs.YtjiakfblgefioaaGreatDoor.RedactS Go.Proofs.YtjiakfblgefioaaGreatDoor.OctP Go.Proofs.YtjiakfblgefioaaGreatDoor.IdentP Go.Proofs.YtjiakfblgefioaaGreatDoor.EventP Go.Proofs.YtjiakfblgefioaaGreatDoor.EventC Go.Proofs.YtjiakfblgefioaaGreatDoor.ShaA Go.Proofs.YtjiakfblgefioaaGreatDoor.ShaB Go.Proofs.YtjiakfblgefioaaGreatDoor.Steps Go.Proofs.YtjiakfblgefioaaGreatDoor.RedA Go.Proofs.YtjiakfblgefioaaGreatDoor.RedB Go.Proofs.YtjiakfblgefioaaGreatDoor.RowsX Go.Proofs.YtjiakfblgefioaaGreatDoor.Lift Go.Proofs.YtjiakfblgefioaaGreatDoor.Tline Go.Proofs.YtjiakfblgefioaaGreatDoor.Tlist Go.Proofs.YtjiakfblgefioaaGreatDoor.Tread Go.Proofs.YtjiakfblgefioaaGreatDoor.Ttake Go.Proofs.YtjiakfblgefioaaGreatDoor.Thex Go.Proofs.YtjiakfblgefioaaGreatDoor.Tmsg
set_option linter.unusedVariables false
set_option linter.unusedSimpArgs false

theorem rdE_lt : ∀ (i : Nat) (l : List En) (x : Rd), x ∈ rdE i l → x.1.1 < i + l.length
  | _, [], x, h => by simp [rdE] at h
  | i, a :: r, x, h => by
    rw [rdE, List.mem_append] at h
    rcases h with h | h
    · unfold oneE at h
      split at h
      · split at h
        · simp only [List.mem_cons, List.not_mem_nil, or_false] at h
          rw [h]
          simp
        · cases h
      · cases h
    · have := rdE_lt (i + 1) r x h
      simp only [List.length_cons]
      omega
def msgs (L : List En) : List Mg := (rdE 0 L).flatMap (mgOf (rdE 0 L))
theorem msgs_lt {L : List En} {m : Mg} (h : m ∈ msgs L) : m.i < L.length := by
  unfold msgs at h
  obtain ⟨x, hx, hm⟩ := List.mem_flatMap.1 h
  unfold mgOf at hm
  split at hm
  · simp only [List.mem_cons, List.not_mem_nil, or_false] at hm
    rw [hm]
    have := rdE_lt 0 L x hx
    simpa using this
  · cases hm
theorem msgs_len (L : List En) : (msgs L).length ≤ L.length := Nat.le_trans (mg_len _ _) (rdE_len _ _)
def ixAt (L : List En) (i : Nat) : Int := ((L[i]?).map En.ix).getD 0
def lnOf (L : List En) (m : Mg) : Ln := ⟨ixAt L m.i, bsOf m.e.sender, if m.gone then ⟨#[]⟩ else bsOf m.e.body, m.gone⟩
/-- The lines of entries. -/
def linesE (L : List En) : List Ln := (msgs L).map (lnOf L)
theorem take_map {α β : Type} (f : α → β) {l : List α} {k : Nat} {x : α} (h : l[k]? = some x) : (l.take (k + 1)).map f = (l.take k).map f ++ [f x] := by
  obtain ⟨hk, rfl⟩ := List.getElem?_eq_some_iff.1 h
  rw [List.take_succ_eq_append_getElem hk, List.map_append]
  rfl
theorem accL_set {w0 W : World} {v : Value} {l : List Ln} (h : AccL w0 W v l) {B j : Nat} (hB : w0.heap.size ≤ B) (hne : ∀ k, v.ownBlock = some k → k ≠ B) (u : Value) : AccL w0 (W.setCell ⟨B, j, none⟩ u) v l :=
  ⟨h.own.ext (Ext.set1 W B j u) (fun k hk e => hne k hk e), h.bel.setCell (p := ⟨B, j, none⟩) hB _⟩

set_option maxRecDepth 100000 in
set_option maxHeartbeats 4000000 in
theorem Of_ok (w : World) (v : Value) (L : List En) (hv : Sl w v 37 L.length (enV L)) (hV : VarsR w) (hb : ∀ x ∈ L, x.ev.size ≤ 140737488351232) (hL : L.length ≤ 1099511627776) :
    Calls Tryz.prog 15 #[v] w fun e w' => ∃ v', e = .returned v' ∧ AccL w w' v' (linesE L) := by
  obtain ⟨a, cap, rfl, hcap, hm⟩ := hv.form
  have hlen : L.length ≤ 9223372036854775807 := by omega
  have hM := messages_ok w _ L hv hV hb hL
  have hlt := fun m (h : m ∈ msgs L) => msgs_lt h
  have hml := msgs_len L
  unfold linesE
  rw [show (rdE 0 L).flatMap (mgOf (rdE 0 L)) = msgs L from rfl] at hM
  obtain ⟨ms, hms⟩ : ∃ ms, ms = msgs L := ⟨_, rfl⟩
  rw [← hms] at hM hlt hml ⊢
  have HV := Lib.hid hv
  have HM := Lib.hid hM
  have HLt := Lib.hid hlt
  have hi8 : (Tryz.prog.info? 76).map (·.size) = some 8 := by kernel_rfl
  have Hi8 := Lib.hid hi8
  clear hv hV hb hcap hm hM hlt hms hi8
  go_enter Tryz.func15, Tryz.ntmps15
  go_wp2_with fail
  refine HM.out.mono ?_
  rintro e w1 ⟨vm, rfl, hA1⟩
  obtain ⟨am, cm, rfl, _, _⟩ := hA1.own.form
  have HS1 := Lib.hid hA1.sl
  have HB1 := Lib.hid hA1.bel
  clear hA1
  go_wp2
  go_loopw [3, 10] (fun b i wr => ∃ (v : Value) (k : Nat), b = v ∧ i = .int .i64 k ∧ k ≤ ms.length ∧ AccL w1 wr v ((ms.take k).map (lnOf L))) (fun _ i _ => ms.length - (intOf i).toNat)
  case atStart => exact ⟨_, 0, rfl, rfl, by omega, AccR.nil w1⟩
  case round =>
    obtain ⟨v, k, rfl, rfl, hk, hA⟩ := hrel
    have hB := hA.bel
    by_cases hlt : k < ms.length
    · obtain ⟨m, hx⟩ : ∃ m, ms[k]? = some m := ⟨_, List.getElem?_eq_getElem hlt⟩
      have hmi := HLt.out m (List.mem_of_getElem? hx)
      obtain ⟨x, hxe⟩ : ∃ x, L[m.i]? = some x := ⟨_, List.getElem?_eq_getElem hmi⟩
      obtain ⟨mb, mo, rfl, hmb, hmc⟩ := row_cells mgF (by omega) HS1.out hx
      obtain ⟨eb, eo, rfl, heb, hec⟩ := row_cells enF (by omega) HV.out hxe
      have hq := ((HB1.out.trans (hB.mono HB1.out.size)).cell (p := ⟨eb, eo + m.i * 37 + 2, none⟩) heb).trans (hec 2 _ (en_ix x))
      have hln : lnOf L m = ⟨x.ix, bsOf m.e.sender, if m.gone then ⟨#[]⟩ else bsOf m.e.body, m.gone⟩ := by
        unfold lnOf ixAt
        rw [hxe]
        rfl
      have hsn := take_map (lnOf L) hx
      rw [hln] at hsn
      have hal : ((ms.take k).map (lnOf L)).length ≤ k := by rw [List.length_map]; exact List.length_take_le _ _
      obtain ⟨G, hG⟩ : ∃ G, G = m.gone := ⟨_, rfl⟩
      rw [← hG] at hsn
      have hcs : m.cs = (#[.int .i64 (m.i : Int), .string (bsOf m.e.room), .string (bsOf m.e.sender), .int .u8 m.e.kind, .string (bsOf m.e.key), .string (bsOf m.e.body), .int .i64 m.e.nonce, .bool G] : Array Value).toList := by rw [hG]; rfl
      rw [hcs] at hmc
      have Hmc := Lib.hid (fun (j : Nat) (u : Value) (hu : (#[.int .i64 (m.i : Int), .string (bsOf m.e.room), .string (bsOf m.e.sender), .int .u8 m.e.kind, .string (bsOf m.e.key), .string (bsOf m.e.body), .int .i64 m.e.nonce, .bool G] : Array Value).toList[j]? = some u) => (hB.cell (p := ⟨mb, mo + k * 8 + j, none⟩) hmb).trans (hmc j u hu))
      have Hsn := Lib.hid hsn
      have HA := Lib.hid hA
      have HB := Lib.hid hB
      obtain ⟨w2, hw2⟩ : ∃ w2, w2 = wr.alloc (.cells #[.int .i64 (m.i : Int), .string (bsOf m.e.room), .string (bsOf m.e.sender), .int .u8 m.e.kind, .string (bsOf m.e.key), .string (bsOf m.e.body), .int .i64 m.e.nonce, .bool G] 76) := ⟨_, rfl⟩
      have hb2 : Below wr.heap.size wr w2 := by rw [hw2]; exact (Below.refl _ _).alloc (Nat.le_refl _) _
      have hx2 : w2.heap[wr.heap.size]? = some (.cells #[.int .i64 (m.i : Int), .string (bsOf m.e.room), .string (bsOf m.e.sender), .int .u8 m.e.kind, .string (bsOf m.e.key), .string (bsOf m.e.body), .int .i64 m.e.nonce, .bool G] 76 (0, 0)) := by rw [hw2]; exact heap_new _ _
      have hq2 := below_cell hb2 hq
      have HB2 := Lib.hid hb2
      have Hw2 := Lib.hid hw2
      have b1 : 0 ≤ (m.i : Int) ∧ (m.i : Int) < (L.length : Int) := by omega
      have b2 : (m.i : Int).toNat = m.i := by omega
      clear hmc hsn hA hB hb2 hw2 hq hec hcs hln hG hx hxe
      go_wp2_with (refine wpList_load_rowO rfl _ _ rfl mb (mo + k * 8) rfl #[.int .i64 (m.i : Int), .string (bsOf m.e.room), .string (bsOf m.e.sender), .int .u8 m.e.kind, .string (bsOf m.e.key), .string (bsOf m.e.body), .int .i64 m.e.nonce, .bool G] Hmc.out Tryz.underlying76 rfl Hi8.out ?_)
      rw [← Hw2.out]
      refine wp_region_noPanic ?_
      refine wp_region_held (S := (fun W => W.heap[wr.heap.size]? = some (.cells #[.int .i64 (m.i : Int), .string (bsOf m.e.room), .string (bsOf m.e.sender), .int .u8 m.e.kind, .string (bsOf m.e.key), .string (bsOf m.e.body), .int .i64 m.e.nonce, .bool G] 76 (0, 0)) ∧ W.cell? ⟨eb, eo + m.i * 37 + 2, none⟩ = some (.int .i64 x.ix))) (by kernel_rfl) ?_
      change wpAnyH _ _ _ _ _ _ _ _ (World.drew w2)
      have hS0 : (w2.drew).heap[wr.heap.size]? = some (.cells #[.int .i64 (m.i : Int), .string (bsOf m.e.room), .string (bsOf m.e.sender), .int .u8 m.e.kind, .string (bsOf m.e.key), .string (bsOf m.e.body), .int .i64 m.e.nonce, .bool G] 76 (0, 0)) ∧ (w2.drew).cell? ⟨eb, eo + m.i * 37 + 2, none⟩ = some (.int .i64 x.ix) := ⟨hx2, hq2⟩
      refine wpAnyH_take (i := 0) (v := ?_) rfl (by kernel_rfl) (by kernel_rfl) (by kernel_rfl) (fun _ _ _ h => h) (Or.inl ⟨by rfl, ?_⟩) hS0 ?_
      rotate_left
      · intro wq hSw
        obtain ⟨q0, q1⟩ := hSw
        obtain ⟨qc0, qf0⟩ := row_facts q0
        go_simp
        rfl
      simp only [Act.put, List.getElem_toArray, List.getElem_cons_zero, List.getElem_cons_succ, List.setIfInBounds_toArray, List.set_cons_zero, List.set_cons_succ]
      refine wpAnyH_take (i := 1) (v := ?_) rfl (by kernel_rfl) (by kernel_rfl) (by kernel_rfl) (fun _ _ _ h => h) (Or.inl ⟨by rfl, ?_⟩) hS0 ?_
      rotate_left
      · intro wq hSw
        obtain ⟨q0, q1⟩ := hSw
        obtain ⟨qc0, qf0⟩ := row_facts q0
        go_simp
        rfl
      simp only [Act.put, List.getElem_toArray, List.getElem_cons_zero, List.getElem_cons_succ, List.setIfInBounds_toArray, List.set_cons_zero, List.set_cons_succ]
      refine wpAnyH_take (i := 2) (v := ?_) rfl (by kernel_rfl) (by kernel_rfl) (by kernel_rfl) (fun _ _ _ h => h) (Or.inl ⟨by rfl, ?_⟩) hS0 ?_
      rotate_left
      · intro wq hSw
        obtain ⟨q0, q1⟩ := hSw
        obtain ⟨qc0, qf0⟩ := row_facts q0
        go_simp
        rfl
      simp only [Act.put, List.getElem_toArray, List.getElem_cons_zero, List.getElem_cons_succ, List.setIfInBounds_toArray, List.set_cons_zero, List.set_cons_succ]
      refine wpAnyH_take (i := 3) (v := ?_) rfl (by kernel_rfl) (by kernel_rfl) (by kernel_rfl) (fun _ _ _ h => h) (Or.inl ⟨by rfl, ?_⟩) hS0 ?_
      rotate_left
      · intro wq hSw
        obtain ⟨q0, q1⟩ := hSw
        obtain ⟨qc0, qf0⟩ := row_facts q0
        go_simp
        rfl
      simp only [Act.put, List.getElem_toArray, List.getElem_cons_zero, List.getElem_cons_succ, List.setIfInBounds_toArray, List.set_cons_zero, List.set_cons_succ]
      refine wpAnyH_take (i := 4) (v := ?_) rfl (by kernel_rfl) (by kernel_rfl) (by kernel_rfl) (fun _ _ _ h => h) (Or.inl ⟨by rfl, ?_⟩) hS0 ?_
      rotate_left
      · intro wq hSw
        obtain ⟨q0, q1⟩ := hSw
        obtain ⟨qc0, qf0⟩ := row_facts q0
        go_simp
        rfl
      simp only [Act.put, List.getElem_toArray, List.getElem_cons_zero, List.getElem_cons_succ, List.setIfInBounds_toArray, List.set_cons_zero, List.set_cons_succ]
      refine wpAnyH_take (i := 5) (v := ?_) rfl (by kernel_rfl) (by kernel_rfl) (by kernel_rfl) (fun _ _ _ h => h) (Or.inl ⟨by rfl, ?_⟩) hS0 ?_
      rotate_left
      · intro wq hSw
        obtain ⟨q0, q1⟩ := hSw
        obtain ⟨qc0, qf0⟩ := row_facts q0
        go_simp
        rfl
      simp only [Act.put, List.getElem_toArray, List.getElem_cons_zero, List.getElem_cons_succ, List.setIfInBounds_toArray, List.set_cons_zero, List.set_cons_succ]
      refine wpAnyH_take (i := 6) (v := ?_) rfl (by kernel_rfl) (by kernel_rfl) (by kernel_rfl) (fun _ _ _ h => h) (Or.inl ⟨by rfl, ?_⟩) hS0 ?_
      rotate_left
      · intro wq hSw
        obtain ⟨q0, q1⟩ := hSw
        obtain ⟨qc0, qf0⟩ := row_facts q0
        go_simp
        rfl
      simp only [Act.put, List.getElem_toArray, List.getElem_cons_zero, List.getElem_cons_succ, List.setIfInBounds_toArray, List.set_cons_zero, List.set_cons_succ]
      refine wpAnyH_take (i := 7) (v := ?_) rfl (by kernel_rfl) (by kernel_rfl) (by kernel_rfl) (fun _ _ _ h => h) (Or.inl ⟨by rfl, ?_⟩) hS0 ?_
      rotate_left
      · intro wq hSw
        obtain ⟨q0, q1⟩ := hSw
        obtain ⟨qc0, qf0⟩ := row_facts q0
        go_simp
        rfl
      simp only [Act.put, List.getElem_toArray, List.getElem_cons_zero, List.getElem_cons_succ, List.setIfInBounds_toArray, List.set_cons_zero, List.set_cons_succ]
      refine wpAnyH_take (i := 8) (v := ?_) rfl (by kernel_rfl) (by kernel_rfl) (by kernel_rfl) (fun _ _ _ h => h) (Or.inl ⟨by rfl, ?_⟩) hS0 ?_
      rotate_left
      · intro wq hSw
        obtain ⟨q0, q1⟩ := hSw
        obtain ⟨qc0, qf0⟩ := row_facts q0
        go_simp
        rfl
      simp only [Act.put, List.getElem_toArray, List.getElem_cons_zero, List.getElem_cons_succ, List.setIfInBounds_toArray, List.set_cons_zero, List.set_cons_succ]
      refine wpAnyH_take (i := 9) (v := ?_) rfl (by kernel_rfl) (by kernel_rfl) (by kernel_rfl) (fun _ _ _ h => h) (Or.inl ⟨by rfl, ?_⟩) hS0 ?_
      rotate_left
      · intro wq hSw
        obtain ⟨q0, q1⟩ := hSw
        obtain ⟨qc0, qf0⟩ := row_facts q0
        go_simp
        rfl
      simp only [Act.put, List.getElem_toArray, List.getElem_cons_zero, List.getElem_cons_succ, List.setIfInBounds_toArray, List.set_cons_zero, List.set_cons_succ]
      refine wpAnyH_take (i := 10) (v := ?_) rfl (by kernel_rfl) (by kernel_rfl) (by kernel_rfl) (fun _ _ _ h => h) (Or.inl ⟨by rfl, ?_⟩) hS0 ?_
      rotate_left
      · intro wq hSw
        obtain ⟨q0, q1⟩ := hSw
        obtain ⟨qc0, qf0⟩ := row_facts q0
        go_simp
        rfl
      simp only [Act.put, List.getElem_toArray, List.getElem_cons_zero, List.getElem_cons_succ, List.setIfInBounds_toArray, List.set_cons_zero, List.set_cons_succ]
      refine wpAnyH_take (i := 11) (v := ?_) rfl (by kernel_rfl) (by kernel_rfl) (by kernel_rfl) (fun _ _ _ h => h) (Or.inl ⟨by rfl, ?_⟩) hS0 ?_
      rotate_left
      · intro wq hSw
        obtain ⟨q0, q1⟩ := hSw
        obtain ⟨qc0, qf0⟩ := row_facts q0
        go_simp
        rfl
      simp only [Act.put, List.getElem_toArray, List.getElem_cons_zero, List.getElem_cons_succ, List.setIfInBounds_toArray, List.set_cons_zero, List.set_cons_succ]
      refine wpAnyH_all (rs := [12]) (by kernel_rfl) (by simp) ?_
      intro i hi
      simp only [List.mem_cons, List.not_mem_nil, or_false] at hi
      subst hi
      refine wpOp_run rfl (by rfl) (w' := w2.drew.alloc (.cells #[.int .i64 0, .string ⟨#[]⟩, .string ⟨#[]⟩, .bool false] 69)) (v := .pointer (some ⟨w2.heap.size, 0, none⟩)) (by go_simp; first | done | rfl) ⟨?_, ?_⟩
      · exact ⟨(heap_at hx2 _), (below_cell ((Below.refl _ _).alloc (Nat.le_refl _) _) hq2)⟩
      simp only [Act.put, List.getElem_toArray, List.getElem_cons_zero, List.getElem_cons_succ, List.setIfInBounds_toArray, List.set_cons_zero, List.set_cons_succ]
      refine wpAnyH_all (rs := [13]) (by kernel_rfl) (by simp) ?_
      intro i hi
      simp only [List.mem_cons, List.not_mem_nil, or_false] at hi
      subst hi
      refine wpOp_skip rfl (by rfl) (w' := w2.drew.alloc (.cells #[.int .i64 x.ix, .string (bsOf m.e.sender), .string ⟨#[]⟩, .bool G] 69)) (by go_simp; first | done | rfl) ?_
      obtain ⟨w3, hw_w3⟩ : ∃ w3, w3 = w2.drew.alloc (.cells #[.int .i64 x.ix, .string (bsOf m.e.sender), .string ⟨#[]⟩, .bool G] 69) := ⟨_, rfl⟩
      rw [← hw_w3]
      have hb_w3 : Below w2.drew.heap.size w2.drew w3 := by rw [hw_w3]; exact (Below.refl _ _).alloc (Nat.le_refl _) _
      have HB_w3 := Lib.hid (((HB2.out).drew).trans (hb_w3.mono ((HB2.out).drew).size))
      have hn_w3 : w3.heap[w2.heap.size]? = some (.cells #[.int .i64 x.ix, .string (bsOf m.e.sender), .string ⟨#[]⟩, .bool G] 69 (0, 0)) := by rw [hw_w3]; exact heap_new' _ rfl
      have p1_0 : (w3).heap[wr.heap.size]? = some (.cells #[.int .i64 (m.i : Int), .string (bsOf m.e.room), .string (bsOf m.e.sender), .int .u8 m.e.kind, .string (bsOf m.e.key), .string (bsOf m.e.body), .int .i64 m.e.nonce, .bool G] 76 (0, 0)) := (hb_w3.block _ (lt_row hx2)).trans hx2
      have p1_1 : (w3).cell? ⟨eb, eo + m.i * 37 + 2, none⟩ = some (.int .i64 x.ix) := below_cell hb_w3 hq2
      have hS1 : (w3).heap[wr.heap.size]? = some (.cells #[.int .i64 (m.i : Int), .string (bsOf m.e.room), .string (bsOf m.e.sender), .int .u8 m.e.kind, .string (bsOf m.e.key), .string (bsOf m.e.body), .int .i64 m.e.nonce, .bool G] 76 (0, 0)) ∧ (w3).cell? ⟨eb, eo + m.i * 37 + 2, none⟩ = some (.int .i64 x.ix) := ⟨p1_0, p1_1⟩
      clear hb_w3 hw_w3
      refine ⟨hS1, ?_⟩
      simp only [Act.put, List.getElem_toArray, List.getElem_cons_zero, List.getElem_cons_succ, List.setIfInBounds_toArray, List.set_cons_zero, List.set_cons_succ]
      refine wpAnyH_done (by kernel_rfl) (NoPanic.normal ?_) _
      have hl3 := lt_row hn_w3
      have HN3 := Lib.hid hn_w3
      have HX3 := Lib.hid p1_0
      have HA3 := Lib.hid (HA.out.below HB_w3.out)
      have HB3 := Lib.hid (HB.out.trans (HB_w3.out.mono HB.out.size))
      have hz3 := HB_w3.out.size
      have hwB := HA.out.bel.size
      obtain ⟨c3, f3⟩ := row_facts hn_w3
      obtain ⟨cx3, fx3⟩ := row_facts HX3.out
      have hlx := lt_row HX3.out
      clear hx2 hq2 hn_w3 b1 b2 
      cases G
      · go_wp2_with (refine wpList_accR tyLines lnF (accL_set HA3.out (B := w2.heap.size) (j := 2) (by have := HB2.out.size; omega) (fun k hk e => by have := (HA.out.own.lt k hk).2; have := HB2.out.size; omega) (.string (bsOf m.e.body))) ⟨x.ix, bsOf m.e.sender, (bsOf m.e.body), false⟩ rfl _ _ rfl rfl #[.int .i64 x.ix, .string (bsOf m.e.sender), .string (bsOf m.e.body), .bool false] rfl _ rfl (by simp) ?hl ?hb ?go)
        case hl => unfold maxLen; omega
        case hb => omega
        case go =>
        intro v4 w4 A4
        have HA4 := Lib.hid A4
        clear A4
        go_wp2
        go_roundw
        case rel => exact ⟨_, k + 1, rfl, by go_num, by omega, by rw [Hsn.out]; simpa [List.map_take] using HA4.out⟩
        case measure => simp [intOf]; omega
      · go_wp2_with (refine wpList_accR tyLines lnF HA3.out ⟨x.ix, bsOf m.e.sender, ⟨#[]⟩, true⟩ rfl _ _ rfl rfl #[.int .i64 x.ix, .string (bsOf m.e.sender), .string ⟨#[]⟩, .bool true] rfl _ rfl (by simp) ?hl ?hb ?go)
        case hl => unfold maxLen; omega
        case hb => omega
        case go =>
        intro v4 w4 A4
        have HA4 := Lib.hid A4
        clear A4
        go_wp2
        go_roundw
        case rel => exact ⟨_, k + 1, rfl, by go_num, by omega, by rw [Hsn.out]; simpa [List.map_take] using HA4.out⟩
        case measure => simp [intOf]; omega
    · obtain rfl : k = ms.length := by omega
      rw [List.take_length] at hA
      have HA := Lib.hid hA
      clear hA
      go_wp2
      go_ret
      exact ⟨_, rfl, ⟨HA.out.own.rebase (fun k hk => by have := (HA.out.own.lt k hk).1; have := HB1.out.size; omega), HB1.out.trans (HA.out.bel.mono HB1.out.size)⟩⟩

end Go.Proofs.YtjiakfblgefioaaGreatDoor.Tof
