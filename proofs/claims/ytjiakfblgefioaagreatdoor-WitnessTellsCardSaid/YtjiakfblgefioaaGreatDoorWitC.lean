/-
  WHAT IS PROVED: a client's deed, and its deliveries, are put behind a script. Condition: none.
-/
import Derived.Test.YtjiakfblgefioaaGreatDoorWitB
namespace Go.Proofs.YtjiakfblgefioaaGreatDoor.WitC
open Go Go.RowKit Go.Shelf Go.Proofs.YtjiakfblgefioaaGreatDoor Go.Proofs.YtjiakfblgefioaaGreatDoor.OctetS Go.Proofs.YtjiakfblgefioaaGreatDoor.IdentS Go.Proofs.YtjiakfblgefioaaGreatDoor.EventS Go.Proofs.YtjiakfblgefioaaGreatDoor.EntS Go.Proofs.YtjiakfblgefioaaGreatDoor.OctP Go.Proofs.YtjiakfblgefioaaGreatDoor.OctQ Go.Proofs.YtjiakfblgefioaaGreatDoor.IdentP Go.Proofs.YtjiakfblgefioaaGreatDoor.IdentR Go.Proofs.YtjiakfblgefioaaGreatDoor.EventP Go.Proofs.YtjiakfblgefioaaGreatDoor.EventC Go.Proofs.YtjiakfblgefioaaGreatDoor.EventB Go.Proofs.YtjiakfblgefioaaGreatDoor.EntP Go.Proofs.YtjiakfblgefioaaGreatDoor.RowsX Go.Proofs.YtjiakfblgefioaaGreatDoor.WitS Go.Proofs.YtjiakfblgefioaaGreatDoor.WitB
set_option linter.unusedVariables false
set_option linter.unusedSimpArgs false

/-- A script that is gathered: a slice of the call's own in a block. -/
structure PlayAt (B p : Nat) (w : World) (v : Value) (L : List Dd) : Prop where
  blk : w.heap[p]? = some (.cells #[v] 42 (0, 0))
  own : Ow w B 49 5 v L.length (ddV L)
  ge : B ≤ p
theorem PlayAt.ne {B p : Nat} {w : World} {v : Value} {L : List Dd} (h : PlayAt B p w v L) : ∀ k, v.ownBlock = some k → k ≠ p := by
  rintro k hk rfl
  rcases h.own.2 with ⟨rfl, _⟩ | ⟨g, cap, cur, fr, rfl, _, hg, _⟩
  · simp [Value.ownBlock] at hk
  · simp [Value.ownBlock] at hk
    subst hk
    rw [h.blk] at hg
    cases hg
theorem PlayAt.below {B p : Nat} {w w' : World} {v : Value} {L : List Dd} (h : PlayAt B p w v L) (hb : Below w.heap.size w w') : PlayAt B p w' v L :=
  ⟨(hb.block _ (lt_row h.blk)).trans h.blk, h.own.ext (Ext.ofB hb) (fun _ _ h => h), h.ge⟩
/-- What grew is stored. -/
theorem PlayAt.put {B p : Nat} {w w1 : World} {v v1 : Value} {L L1 : List Dd} (h : PlayAt B p w v L) (hown : Ow w1 B 49 5 v1 L1.length (ddV L1)) (hg : w.grownBy w1 v.ownBlock) : PlayAt B p (w1.setCell ⟨p, 0, none⟩ v1) v1 L1 := by
  have hb1 : w1.heap[p]? = some (.cells #[v] 42 (0, 0)) := heap_gr hg h.blk (fun e => h.ne p e rfl)
  refine ⟨heap_setCell_same hb1 v1, hown.ext (Ext.set1 w1 p 0 v1) (fun k hk e => ?_), h.ge⟩
  subst e
  rcases hown.2 with ⟨rfl, _⟩ | ⟨g, cap, cur, fr, rfl, _, hg, _⟩
  · simp [Value.ownBlock] at hk
  · simp [Value.ownBlock] at hk
    subst hk
    rw [hb1] at hg
    cases hg
def dlsC (t : ByteArray) (d : Nat) : List Dd := cl t :: List.replicate d (dl 0)

set_option maxRecDepth 100000 in
set_option maxHeartbeats 4000000 in
theorem client_ok (w : World) (B p : Nat) (v : Value) (L : List Dd) (t : ByteArray) (d : Nat) (hA : PlayAt B p w v L) (hB : B ≤ w.heap.size) (hd1 : 1 ≤ d) (hd : d ≤ 100) (hL : L.length ≤ 1000) :
    Calls Tryz.prog 20 #[.pointer (some ⟨p, 0, none⟩), .string t, .int .i64 d] w fun e w' => e = .returned (.tuple #[]) ∧ ∃ v', PlayAt B p w' v' (L ++ dlsC t d) ∧ Below B w w' := by
  obtain ⟨a, cap, rfl, hcap, hmm⟩ := hA.own.form
  have hlen : L.length ≤ 1000 := hL
  have hblk := hA.blk
  have hl0 := lt_row hblk
  obtain ⟨hc0, hf0⟩ := row_facts hblk
  have HA := Lib.hid hA
  have HB := Lib.hid hB
  clear hA hblk hcap hmm hB
  have hRep := fun w v h => Repeat_ok w v (dl 0) d hd1 hd h
  have HR := Lib.hid hRep
  clear hRep
  go_enter Tryz.func20, Tryz.ntmps20
  go_wp2_with (at_builtin; go_must (refine wpList_appF _ rfl _ _ _ _ rfl tyPlay B _ L.length (ddV L) rfl (HA.out.below ((Below.refl _ w).alloc (Nat.le_refl _) (.cells #[.int .u8 1, .int .i64 0, .int .i64 0, .string t, .int .u8 0] 49))).own _ 1 (cl t).cs rfl (row_new_src tyPlay.ht ddF w (cl t) #[.int .u8 1, .int .i64 0, .int .i64 0, .string t, .int .u8 0] rfl 49) (L.length + 1) rfl (ddV (L ++ [cl t])) (by unfold ddV; rw [List.flatMap_append, List.flatMap_singleton]) ?h63 ?hby ?hba ?go))
  case h63 => unfold maxLen; omega
  case hby => omega
  case hba => have := HA.out.ge; simp; omega
  case go =>
  intro a1 c1 w1 hown1 hgr1 _
  have hown1' : Ow w1 B 49 5 (.slice a1 (L.length + 1) c1) (L ++ [cl t]).length (ddV (L ++ [cl t])) := by
    rw [show (L ++ [cl t]).length = L.length + 1 by simp, show ddV (L ++ [cl t]) = L.flatMap Dd.cs ++ (cl t).cs by unfold ddV; rw [List.flatMap_append, List.flatMap_singleton]]
    exact hown1
  have A1 := (HA.out.below ((Below.refl _ w).alloc (Nat.le_refl _) (.cells #[.int .u8 1, .int .i64 0, .int .i64 0, .string t, .int .u8 0] 49))).put hown1' hgr1
  have hE1 : Below B w w1 := (((Below.refl _ w).alloc (Nat.le_refl _) (.cells #[.int .u8 1, .int .i64 0, .int .i64 0, .string t, .int .u8 0] 49)).mono HB.out).grown hgr1 (by have := HB.out; simp; omega) (fun k hk => (HA.out.own.lt k hk).1)
  have hb1 := heap_gr hgr1 (HA.out.below ((Below.refl _ w).alloc (Nat.le_refl _) (.cells #[.int .u8 1, .int .i64 0, .int .i64 0, .string t, .int .u8 0] 49))).blk (fun e => HA.out.ne p e rfl)
  obtain ⟨hc1, hf1⟩ := row_facts hb1
  have hl1 := lt_row hb1
  have HA1 := Lib.hid A1
  have HE1 := Lib.hid (hE1.setCell (p := ⟨p, 0, none⟩) HA.out.ge (.slice a1 (L.length + 1) c1))
  clear A1 hE1 hown1 hown1' hgr1 hb1 hc0 hf0
  go_wp2
  obtain ⟨w2, hw2⟩ : ∃ w2, w2 = w1.setCell ⟨p, 0, none⟩ (.slice a1 (L.length + 1) c1) := ⟨_, rfl⟩
  rw [← hw2] at HA1 HE1 ⊢
  clear hw2 hc1 hf1 hl1
  have hblk := HA1.out.blk
  have hl2 := lt_row hblk
  have HX := Lib.hid hblk
  clear hblk
  refine wp_region_noPanic ?_
  refine Wr.region_K (S := (fun W => W.heap[p]? = some (.cells #[.slice a1 (L.length + 1) c1] 42 (0, 0)))) (K := [8, 10]) (by kernel_rfl) ?_
  change Wr.wpAnyK _ _ _ _ _ _ _ _ _ (World.drew w2)
  have hS0 : (World.drew w2).heap[p]? = some (.cells #[.slice a1 (L.length + 1) c1] 42 (0, 0)) := HX.out
  have hBL0 : Below w2.heap.size w2 (World.drew w2) := Bl.drew (Below.refl _ _)
  refine Wr.wpAnyK_takeP (i := 0) (v := ?_) rfl (by kernel_rfl) (fun _ _ _ h => h) (Or.inl ⟨by rfl, ?_⟩) hS0 ?_
  rotate_left
  · intro wq _
    go_simp
    rfl
  simp only [Act.put, List.getElem_toArray, List.getElem_cons_zero, List.getElem_cons_succ, List.setIfInBounds_toArray, List.set_cons_zero, List.set_cons_succ]
  refine Wr.wpAnyK_takeP (i := 1) (v := ?_) rfl (by kernel_rfl) (fun _ _ _ h => h) (Or.inl ⟨by rfl, ?_⟩) hS0 ?_
  rotate_left
  · intro wq _
    go_simp
    rfl
  simp only [Act.put, List.getElem_toArray, List.getElem_cons_zero, List.getElem_cons_succ, List.setIfInBounds_toArray, List.set_cons_zero, List.set_cons_succ]
  refine Wr.wpAnyK_takeP (i := 2) (v := ?_) rfl (by kernel_rfl) (fun _ _ _ h => h) (Or.inl ⟨by rfl, ?_⟩) hS0 ?_
  rotate_left
  · intro wq _
    go_simp
    rfl
  simp only [Act.put, List.getElem_toArray, List.getElem_cons_zero, List.getElem_cons_succ, List.setIfInBounds_toArray, List.set_cons_zero, List.set_cons_succ]
  refine Wr.wpAnyK_take (i := 3) (v := ?_) rfl (by kernel_rfl) (fun _ _ _ h => h) (Or.inl ⟨by rfl, ?_⟩) hS0 ?_
  rotate_left
  · intro wq hSw
    have q0 := hSw
    obtain ⟨qc0, qf0⟩ := row_facts q0
    go_simp
    rfl
  simp only [Act.put, List.getElem_toArray, List.getElem_cons_zero, List.getElem_cons_succ, List.setIfInBounds_toArray, List.set_cons_zero, List.set_cons_succ]
  refine Wr.wpAnyK_takeP (i := 4) (v := ?_) rfl (by kernel_rfl) (fun _ _ _ h => h) (Or.inl ⟨by rfl, ?_⟩) hS0 ?_
  rotate_left
  · intro wq _
    go_simp
    rfl
  simp only [Act.put, List.getElem_toArray, List.getElem_cons_zero, List.getElem_cons_succ, List.setIfInBounds_toArray, List.set_cons_zero, List.set_cons_succ]
  refine Wr.wpAnyK_takeP (i := 6) (v := ?_) rfl (by kernel_rfl) (fun _ _ _ h => h) (Or.inl ⟨by rfl, ?_⟩) hS0 ?_
  rotate_left
  · intro wq _
    go_simp
    rfl
  simp only [Act.put, List.getElem_toArray, List.getElem_cons_zero, List.getElem_cons_succ, List.setIfInBounds_toArray, List.set_cons_zero, List.set_cons_succ]
  refine Wr.wpAnyK_one (i := 5) (by kernel_rfl) ?_
  refine wpOp_run rfl (by rfl) (w' := (World.drew w2).alloc (.cells #[.int .u8 6, .int .i64 0, .int .i64 0, .string ⟨#[]⟩, .int .u8 0] 49)) (v := .slice (some ⟨(World.drew w2).heap.size, 0, none⟩) 1 1) (by go_simp; first | done | rfl) ?_
  obtain ⟨w3, hw_w3⟩ : ∃ w3, w3 = (World.drew w2).alloc (.cells #[.int .u8 6, .int .i64 0, .int .i64 0, .string ⟨#[]⟩, .int .u8 0] 49) := ⟨_, rfl⟩
  rw [← hw_w3]
  have hb_w3 : Below (World.drew w2).heap.size (World.drew w2) w3 := by rw [hw_w3]; exact (Below.refl _ _).alloc (Nat.le_refl _) _
  have hn_w3 : w3.heap[(World.drew w2).heap.size]? = some (.cells #[.int .u8 6, .int .i64 0, .int .i64 0, .string ⟨#[]⟩, .int .u8 0] 49 (0, 0)) := by rw [hw_w3]; exact heap_new' _ rfl
  have hS1 : w3.heap[p]? = some (.cells #[.slice a1 (L.length + 1) c1] 42 (0, 0)) := (hb_w3.block _ (lt_row (hS0))).trans (hS0)
  have hBL1 : Below w2.heap.size w2 w3 := hBL0.trans (hb_w3.mono hBL0.size)
  clear hw_w3
  refine ⟨hS1, ?_⟩
  simp only [Act.put, List.getElem_toArray, List.getElem_cons_zero, List.getElem_cons_succ, List.setIfInBounds_toArray, List.set_cons_zero, List.set_cons_succ]
  have hsl3 : Sl w3 (.slice (some ⟨(World.drew w2).heap.size, 0, none⟩) 1 1) 5 1 (dl 0).cs := ⟨rfl, .inr ⟨_, 1, rfl, Nat.le_refl _, by unfold maxLen; omega, fun j u hu => by rw [Addr.add_mid, cell_row hn_w3, ← hu]; simp [dl, Dd.cs]⟩⟩
  refine Wr.wpAnyK_one (i := 7) (by kernel_rfl) ?_
  refine wpOp_call rfl (by rfl) (by go_simp; first | done | rfl | exact ⟨⟨rfl, rfl⟩, rfl⟩ | exact ⟨rfl, rfl⟩) ?_
  refine (HR.out w3 _ hsl3).mono ?_
  rintro e w4 ⟨vr, rfl, hb_w4, hsl4⟩
  have hS2 : w4.heap[p]? = some (.cells #[.slice a1 (L.length + 1) c1] 42 (0, 0)) := (hb_w4.block _ (lt_row (hS1))).trans (hS1)
  have hBL2 : Below w2.heap.size w2 w4 := hBL1.trans (hb_w4.mono hBL1.size)
  refine ⟨_, rfl, ?_, ?_⟩
  · exact hS2
  simp only [Act.put, List.getElem_toArray, List.getElem_cons_zero, List.getElem_cons_succ, List.setIfInBounds_toArray, List.set_cons_zero, List.set_cons_succ]
  have A4 := HA1.out.below hBL2
  have E4 := HE1.out.trans (hBL2.mono (by have := HE1.out.size; have := HB.out; omega))
  refine Wr.wpAnyK_write (i := 8) (by kernel_rfl) (by kernel_rfl) ?_
  refine Wr.wpOp_appF rfl (by rfl) (.tmp 18) (.tmp 22) _ _ rfl tyPlay B _ (L ++ [cl t]).length (ddV (L ++ [cl t])) (by simp [Act.eval]) A4.own vr d (ddV (List.replicate d (dl 0))) rfl (hsl4.src tyDeeds.ht (rep_one d (dl 0))) ((L ++ [cl t]).length + d) rfl (ddV (L ++ dlsC t d)) ?_ ?_ ?_ ?_ ?_
  · unfold ddV dlsC; simp [List.flatMap_append]
  · simp only [List.length_append, List.length_singleton, maxLen]; omega
  · simp only [List.length_append, List.length_singleton]; omega
  · have := E4.size; have := HB.out; omega
  intro a5 c5 w5 hown5 hgr5 _
  have hlen5 : (L ++ [cl t]).length + d = (L ++ dlsC t d).length := by unfold dlsC; simp; omega
  rw [hlen5] at hown5 ⊢
  have A5 := A4.put hown5 hgr5
  have hb5 := heap_gr hgr5 A4.blk (fun e => A4.ne p e rfl)
  obtain ⟨hc5, hf5⟩ := row_facts hb5
  have hl5 := lt_row hb5
  have E5 := (E4.grown hgr5 (by have := E4.size; have := HB.out; omega) (fun k hk => (A4.own.lt k hk).1)).setCell (p := ⟨p, 0, none⟩) HA.out.ge (.slice a5 (L ++ dlsC t d).length c5)
  have HA5 := Lib.hid A5
  have HE5 := Lib.hid E5
  clear A5 E5 A4 E4 hgr5 hown5 hlen5 hsl3 hsl4
  simp only [Act.put, List.getElem_toArray, List.getElem_cons_zero, List.getElem_cons_succ, List.setIfInBounds_toArray, List.set_cons_zero, List.set_cons_succ]
  refine Wr.wpAnyK_takeL (i := 9) (v := ?_) rfl (by kernel_rfl) (fun _ _ _ h => h) (Or.inl ⟨by rfl, ?_⟩) ?_
  rotate_left
  · intro wq _
    go_simp
    rfl
  simp only [Act.put, List.getElem_toArray, List.getElem_cons_zero, List.getElem_cons_succ, List.setIfInBounds_toArray, List.set_cons_zero, List.set_cons_succ]
  refine Wr.wpAnyK_write (i := 10) (by kernel_rfl) (by kernel_rfl) ?_
  refine wpOp_skip rfl (by rfl) (w' := w5.setCell ⟨p, 0, none⟩ (.slice a5 (L ++ dlsC t d).length c5)) (by go_simp; first | done | rfl) ?_
  simp only [Act.put, List.getElem_toArray, List.getElem_cons_zero, List.getElem_cons_succ, List.setIfInBounds_toArray, List.set_cons_zero, List.set_cons_succ]
  refine Wr.wpAnyK_done (by kernel_rfl) (NoPanic.normal ?_) _
  obtain ⟨w6, hw6⟩ : ∃ w6, w6 = w5.setCell ⟨p, 0, none⟩ (.slice a5 (L ++ dlsC t d).length c5) := ⟨_, rfl⟩
  rw [← hw6] at HA5 HE5 ⊢
  clear hw6 hc5 hf5 hl5 hb5
  go_wp2
  go_end0
  exact ⟨rfl, _, HA5.out, HE5.out⟩


end Go.Proofs.YtjiakfblgefioaaGreatDoor.WitC
