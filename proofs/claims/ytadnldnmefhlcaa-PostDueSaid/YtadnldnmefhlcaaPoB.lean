/-
  WHAT IS PROVED: a mail is put into the document's box. Condition: what each theorem names.
-/
import Derived.Test.YtadnldnmefhlcaaPoA
import Derived.Deep.CutRange
namespace Go.Proofs.Ytadnldnmefhlcaa.PoB
open Go Go.RowKit Go.Shelf Go.Conc Go.Proofs.Ytadnldnmefhlcaa Go.Proofs.Ytadnldnmefhlcaa.PostA Go.Proofs.Ytadnldnmefhlcaa.PostF Go.Proofs.Ytadnldnmefhlcaa.PostP Go.Proofs.Ytadnldnmefhlcaa.PostQ Go.Proofs.Ytadnldnmefhlcaa.RowsX Go.Proofs.Ytadnldnmefhlcaa.Lift Go.Proofs.Ytadnldnmefhlcaa.Steps Go.Proofs.Ytadnldnmefhlcaa.PoA
set_option linter.unusedVariables false
set_option linter.unusedSimpArgs false
attribute [-go_sem] Builtin.append_

section
variable {P : Program} {ops : Array Oper} {Q : Exit → Act → World → Prop} {md : Region.Mode} {S : World → Prop} {K : List Nat}
/-- Two may come up: neither a writer, behind each of which S is to be shown anew. -/
theorem wpAnyK_two {i j : Nat} {fuel : Nat} {listed : Array Bool} {a : Act} {w : World} (hr : Region.ready md ops listed = [i, j])
    (h : wpOp P ops Q i (fun a' w' => S w' ∧ Wr.wpAnyK P md ops Q S K fuel (listed.setIfInBounds i true) a' w') a w)
    (h2 : wpOp P ops Q j (fun a' w' => S w' ∧ Wr.wpAnyK P md ops Q S K fuel (listed.setIfInBounds j true) a' w') a w) : Wr.wpAnyK P md ops Q S K (fuel + 1) listed a w :=
  ⟨fun h0 => absurd (hr ▸ h0) (by simp), fun k hk => by
    rw [hr] at hk
    simp only [List.mem_cons, List.not_mem_nil, or_false] at hk
    rcases hk with rfl | rfl
    · exact wpOp_mono (fun a' w' h' => ⟨fun _ => h'.1, h'.2⟩) h
    · exact wpOp_mono (fun a' w' h' => ⟨fun _ => h'.1, h'.2⟩) h2⟩
end

theorem sl_one {w : World} {g : Nat} {cs : Array Value} {te : TypeId} {n : Nat} (h : w.heap[g]? = some (.cells cs te (0, 0))) (hs : cs.size = n) : Sl w (.slice (some ⟨g, 0, none⟩) 1 1) n 1 cs.toList := by
  refine ⟨by simp [hs], .inr ⟨_, 1, rfl, Nat.le_refl _, by unfold maxLen; omega, fun j u hu => ?_⟩⟩
  rw [Addr.add_mid, Nat.zero_add, cell_row h, ← hu]
  simp
theorem own_empty {w : World} {base g : Nat} {e : TypeId} {size : Nat} (h : w.heap[g]? = some (.cells #[] e (0, 0))) (hb : base ≤ g) : Ow w base e size (.slice (some ⟨g, 0, none⟩) 0 0) 0 [] :=
  ⟨by simp, .inr ⟨g, 0, #[], (0, 0), rfl, hb, h, Nat.le_refl _, by unfold maxLen; omega, by simp, by simp, fun j hj => by simp at hj⟩⟩

theorem refPut_range (w : World) (room gap last lost tt : Int) (s : Value) (text : ByteArray) (L : List Lt) (hs : Sl w s 4 L.length (L.flatMap oc)) (h : tt < 0 ∨ 63 < tt) :
    Calls Try.prog 8 #[PV room gap s last lost, .int .i64 tt, .string text] w fun e w' => e = .returned (.tuple #[PV room gap s last lost, .int .i64 0, .int .i64 1]) ∧ Below w.heap.size w w' := by
  unfold PV
  obtain ⟨a, cap, rfl, hcap, hm⟩ := hs.form
  clear hs
  by_cases h0 : tt < 0
  · have d1 : decide (tt < 0) = true := decide_eq_true h0
    go_enter Try.func8, Try.ntmps8
    go_wp2
    refine bodyPost_ret (v := .tuple #[.agg #[.int .i64 room, .int .i64 gap, .slice a L.length cap, .int .i64 last, .int .i64 lost], .int .i64 0, .int .i64 1]) (by simp [results, Try.results8, go_sem, *]; done) rfl ⟨rfl, ?_⟩
    exact ((Below.refl _ w).alloc (Nat.le_refl _) _).alloc (by simp) _
  · have d1 : decide (tt < 0) = false := decide_eq_false h0
    have d2 : decide (63 < tt) = true := decide_eq_true (by omega)
    go_enter Try.func8, Try.ntmps8
    go_wp2
    refine bodyPost_ret (v := .tuple #[.agg #[.int .i64 room, .int .i64 gap, .slice a L.length cap, .int .i64 last, .int .i64 lost], .int .i64 0, .int .i64 1]) (by simp [results, Try.results8, go_sem, *]; done) rfl ⟨rfl, ?_⟩
    exact ((Below.refl _ w).alloc (Nat.le_refl _) _).alloc (by simp) _

theorem refPut_full (w : World) (room : Nat) (gap last lost tt : Int) (s : Value) (L : List Lt) (text : ByteArray) (h0 : 0 ≤ tt) (h1 : tt ≤ 63) (hs : Sl w s 4 L.length (L.flatMap oc)) (hs0 : 0 ≤ lost) (hs1 : lost ≤ 1000000) (hr : L.length = room) :
    Calls Try.prog 8 #[PV room gap s last lost, .int .i64 tt, .string text] w fun e w' => e = .returned (.tuple #[PV room gap s last (lost + 1), .int .i64 0, .int .i64 8]) ∧ Below w.heap.size w w' := by
  unfold PV
  obtain ⟨a, cap, rfl, hcap, hm⟩ := hs.form
  subst hr
  have wr2 : IntKind.i64.wrap (lost + 1) = lost + 1 := IntWalk.i64_in _ (by omega)
  have d1 : decide (tt < 0) = false := decide_eq_false (by omega)
  have d2 : decide (63 < tt) = false := decide_eq_false (by omega)
  clear hs
  go_enter Try.func8, Try.ntmps8
  go_wp2
  refine bodyPost_ret (v := .tuple #[.agg #[.int .i64 L.length, .int .i64 gap, .slice a L.length cap, .int .i64 last, .int .i64 (lost + 1)], .int .i64 0, .int .i64 8]) (by simp [results, Try.results8, go_sem, *]; done) rfl ⟨rfl, ?_⟩
  exact ((Below.refl _ w).alloc (Nat.le_refl _) _).alloc (by simp) _

set_option maxRecDepth 100000 in
set_option maxHeartbeats 4000000 in
theorem refPut_room (w : World) (room : Nat) (gap last lost tt : Int) (s : Value) (L : List Lt) (text : ByteArray) (h0 : 0 ≤ tt) (h1 : tt ≤ 63) (hs : Sl w s 4 L.length (L.flatMap oc)) (hl0 : 0 ≤ last) (hl1 : last ≤ 1000000) (hr : L.length < room) (hrm : room ≤ 256) :
    Calls Try.prog 8 #[PV room gap s last lost, .int .i64 tt, .string text] w fun e w' => ∃ s', e = .returned (.tuple #[PV room gap s' (last + 1) lost, .int .i64 (last + 1), .int .i64 0]) ∧ Ow w' w.heap.size 62 4 s' (L.length + 1) ((L ++ [letOf last tt text]).flatMap oc) ∧ Below w.heap.size w w' := by
  unfold PV
  obtain ⟨a, cap, rfl, hcap, hm⟩ := hs.form
  have wr1 : IntKind.i64.wrap (last + 1) = last + 1 := IntWalk.i64_in _ (by omega)
  have d1 : decide (tt < 0) = false := decide_eq_false (by omega)
  have d2 : decide (63 < tt) = false := decide_eq_false (by omega)
  have d3 : decide ((L.length : Int) = (room : Int)) = false := decide_eq_false (by omega)
  have HS := Lib.hid hs
  clear hs
  go_enter Try.func8, Try.ntmps8
  go_upto_region 7 with fail
  clear d1 d2 d3
  obtain ⟨w0, hw0⟩ : ∃ w0, w0 = (w.alloc (.cells #[.int .i64 room, .int .i64 gap, .slice a L.length cap, .int .i64 (last + 1), .int .i64 lost] 30)).alloc (.cells #[.int .i64 0, .int .i64 0, .slice none 0 0, .int .i64 0, .int .i64 0] 30) := ⟨_, rfl⟩
  have hb0 : Below w.heap.size w w0 := by rw [hw0]; exact ((Below.refl _ w).alloc (Nat.le_refl _) _).alloc (by simp) _
  have hx0 : w0.heap[w.heap.size]? = some (.cells #[.int .i64 room, .int .i64 gap, .slice a L.length cap, .int .i64 (last + 1), .int .i64 lost] 30 (0, 0)) := by rw [hw0]; exact heap_at (heap_new _ _) _
  have hy0 : w0.heap[w.heap.size + 1]? = some (.cells #[.int .i64 0, .int .i64 0, .slice none 0 0, .int .i64 0, .int .i64 0] 30 (0, 0)) := by rw [hw0]; exact heap_new' _ (by simp)
  have hz0 : w0.heap.size = w.heap.size + 2 := by rw [hw0]; simp
  rw [← hw0]
  have HB0 := Lib.hid hb0
  have HX0 := Lib.hid hx0
  have HY0 := Lib.hid hy0
  have HS0 := Lib.hid (HS.out.below hb0)
  clear hw0 hb0 hy0
  refine wp_region_noPanic ?_
  refine Wr.region_K (S := (fun W => W.heap[w.heap.size]? = some (.cells #[.int .i64 room, .int .i64 gap, .slice a L.length cap, .int .i64 (last + 1), .int .i64 lost] 30 (0, 0)))) (K := [13]) (by kernel_rfl) ?_
  change Wr.wpAnyK _ _ _ _ _ _ _ _ _ (World.drew w0)
  have hS0 : (w0.drew).heap[w.heap.size]? = some (.cells #[.int .i64 room, .int .i64 gap, .slice a L.length cap, .int .i64 (last + 1), .int .i64 lost] 30 (0, 0)) := hx0
  clear hx0
  have HSd := Lib.hid (show Sl w0.drew (.slice a L.length cap) 4 L.length (L.flatMap oc) from HS0.out.below (Bl.drew (Below.refl _ _)))
  refine Wr.wpAnyK_takeP (i := 1) (v := ?_) rfl (by kernel_rfl) (fun _ _ _ h => h) (Or.inl ⟨by rfl, ?_⟩) hS0 ?_
  rotate_left
  · intro wq _
    go_simp
    rfl
  simp only [Act.put, List.getElem_toArray, List.getElem_cons_zero, List.getElem_cons_succ, List.setIfInBounds_toArray, List.set_cons_zero, List.set_cons_succ]
  refine Wr.wpAnyK_takeJ [3, 11, 13] (i := 2) (v := ?_) rfl (by kernel_rfl) (fun _ _ _ h => h) (Or.inl ⟨by rfl, ?_⟩) hS0 ?_
  rotate_left
  · intro wq hSw
    obtain ⟨qc, qf⟩ := row_facts hSw
    go_simp
    rfl
  simp only [Act.put, List.getElem_toArray, List.getElem_cons_zero, List.getElem_cons_succ, List.setIfInBounds_toArray, List.set_cons_zero, List.set_cons_succ]
  refine Wr.wpAnyK_takeP (i := 4) (v := ?_) rfl (by kernel_rfl) (fun _ _ _ h => h) (Or.inl ⟨by rfl, ?_⟩) hS0 ?_
  rotate_left
  · intro wq _
    go_simp
    rfl
  simp only [Act.put, List.getElem_toArray, List.getElem_cons_zero, List.getElem_cons_succ, List.setIfInBounds_toArray, List.set_cons_zero, List.set_cons_succ]
  refine Wr.wpAnyK_takeJ [8, 9, 10, 11, 13] (i := 5) (v := ?_) rfl (by kernel_rfl) (fun _ _ _ h => h) (Or.inl ⟨by rfl, ?_⟩) hS0 ?_
  rotate_left
  · intro wq hSw
    obtain ⟨qc, qf⟩ := row_facts hSw
    go_simp
    rfl
  simp only [Act.put, List.getElem_toArray, List.getElem_cons_zero, List.getElem_cons_succ, List.setIfInBounds_toArray, List.set_cons_zero, List.set_cons_succ]
  refine Wr.wpAnyK_takeP (i := 6) (v := ?_) rfl (by kernel_rfl) (fun _ _ _ h => h) (Or.inl ⟨by rfl, ?_⟩) hS0 ?_
  rotate_left
  · intro wq _
    go_simp
    rfl
  simp only [Act.put, List.getElem_toArray, List.getElem_cons_zero, List.getElem_cons_succ, List.setIfInBounds_toArray, List.set_cons_zero, List.set_cons_succ]
  refine Wr.wpAnyK_takeP (i := 7) (v := ?_) rfl (by kernel_rfl) (fun _ _ _ h => h) (Or.inl ⟨by rfl, ?_⟩) hS0 ?_
  rotate_left
  · intro wq _
    go_simp
    rfl
  simp only [Act.put, List.getElem_toArray, List.getElem_cons_zero, List.getElem_cons_succ, List.setIfInBounds_toArray, List.set_cons_zero, List.set_cons_succ]
  refine Wr.wpAnyK_takeP (i := 8) (v := ?_) rfl (by kernel_rfl) (fun _ _ _ h => h) (Or.inl ⟨by rfl, ?_⟩) hS0 ?_
  rotate_left
  · intro wq _
    go_simp
    rfl
  simp only [Act.put, List.getElem_toArray, List.getElem_cons_zero, List.getElem_cons_succ, List.setIfInBounds_toArray, List.set_cons_zero, List.set_cons_succ]
  refine Wr.wpAnyK_takeP (i := 9) (v := ?_) rfl (by kernel_rfl) (fun _ _ _ h => h) (Or.inl ⟨by rfl, ?_⟩) hS0 ?_
  rotate_left
  · intro wq _
    go_simp
    rfl
  simp only [Act.put, List.getElem_toArray, List.getElem_cons_zero, List.getElem_cons_succ, List.setIfInBounds_toArray, List.set_cons_zero, List.set_cons_succ]
  refine wpAnyK_two (i := 0) (j := 10) (by kernel_rfl) ?_ ?_
  · skip
    refine wpOp_run rfl (by rfl) (v := .slice (some ⟨w0.heap.size, 0, none⟩) 0 0) (w' := w0.drew.alloc (.cells #[] 62)) (by go_simp; first | done | rfl | exact ⟨rfl, rfl⟩) ?_
    obtain ⟨wE, hw1⟩ : ∃ x, x = w0.drew.alloc (.cells #[] 62) := ⟨_, rfl⟩
    have hb1 : Below w0.drew.heap.size w0.drew wE := by rw [hw1]; exact (Below.refl _ _).alloc (Nat.le_refl _) _
    have hnE : wE.heap[w0.heap.size]? = some (.cells #[] 62 (0, 0)) := by rw [hw1]; exact heap_new' _ rfl
    have hzE : wE.heap.size = w0.heap.size + 1 := by rw [hw1]; simp
    rw [← hw1]
    have hE := Lib.hid hnE
    have hB1 := Lib.hid ((HB0.out.drew).trans (hb1.mono (HB0.out.drew).size))
    have hs1 : wE.heap[w.heap.size]? = some (.cells #[.int .i64 room, .int .i64 gap, .slice a L.length cap, .int .i64 (last + 1), .int .i64 lost] 30 (0, 0)) := (hb1.block _ (lt_row hS0)).trans hS0
    have hl1 := Lib.hid (Sl.below HSd.out hb1)
    have hy1 := Lib.hid ((hb1.block _ (lt_row (HY0.out))).trans (HY0.out))
    clear hw1 hb1 hnE
    refine ⟨hs1, ?_⟩
    simp only [Act.put, List.getElem_toArray, List.getElem_cons_zero, List.getElem_cons_succ, List.setIfInBounds_toArray, List.set_cons_zero, List.set_cons_succ]
    refine wpAnyK_two (i := 3) (j := 10) (by kernel_rfl) ?_ ?_
    · skip
      refine Wr.wpOp_appF rfl (by rfl) _ _ _ _ rfl tyOne (w.heap.size + 2) (.slice (some ⟨w0.heap.size, 0, none⟩) 0 0) 0 [] rfl (own_empty hE.out (by omega)) (.slice a L.length cap) L.length (L.flatMap oc) rfl (Sl.src hl1.out Try.underlying28 (fun u hu => by obtain ⟨y, _, hy⟩ := List.mem_flatMap.1 hu; exact ocF.one y u hy)) L.length (Nat.zero_add _) (L.flatMap oc) (List.nil_append _) (by unfold maxLen; omega) (by omega) (by first | omega | (have := (hB1.out).size; omega)) ?_
      intro aC cC wC hownC hgrC hatC
      have hzC := hgrC.size
      have hneC : ∀ j, j ≠ w0.heap.size → some j ≠ (Value.slice (some ⟨w0.heap.size, 0, none⟩) 0 0).ownBlock := fun j hj e => by simp [Value.ownBlock] at e; omega
      have hB2 := Lib.hid (Below.grown hB1.out hgrC (by first | omega | (have := (hB1.out).size; omega)) (fun j hj => by simp [Value.ownBlock] at hj; omega))
      have hs2 : wC.heap[w.heap.size]? = some (.cells #[.int .i64 room, .int .i64 gap, .slice a L.length cap, .int .i64 (last + 1), .int .i64 lost] 30 (0, 0)) := (hgrC.block _ (lt_row hs1) (hneC _ (by omega))).trans hs1
      have hy2 := Lib.hid ((hgrC.block _ (lt_row (hy1.out)) (hneC _ (by omega))).trans (hy1.out))
      have hc2 := Lib.hid hownC
      clear hownC
      refine ⟨hs2, ?_⟩
      simp only [Act.put, List.getElem_toArray, List.getElem_cons_zero, List.getElem_cons_succ, List.setIfInBounds_toArray, List.set_cons_zero, List.set_cons_succ]
      refine Wr.wpAnyK_one (i := 10) (by kernel_rfl) ?_
      refine wpOp_run rfl (by rfl) (v := .slice (some ⟨wC.heap.size, 0, none⟩) 1 1) (w' := wC.alloc (.cells #[.int .i64 (last + 1), .int .i64 tt, .string text, .int .i64 (-1)] 62)) (by go_simp; first | done | rfl | exact ⟨rfl, rfl⟩) ?_
      obtain ⟨wG, hw1⟩ : ∃ x, x = wC.alloc (.cells #[.int .i64 (last + 1), .int .i64 tt, .string text, .int .i64 (-1)] 62) := ⟨_, rfl⟩
      have hb1 : Below wC.heap.size wC wG := by rw [hw1]; exact (Below.refl _ _).alloc (Nat.le_refl _) _
      have hnG : wG.heap[wC.heap.size]? = some (.cells #[.int .i64 (last + 1), .int .i64 tt, .string text, .int .i64 (-1)] 62 (0, 0)) := by rw [hw1]; exact heap_new' _ rfl
      have hzG : wG.heap.size = wC.heap.size + 1 := by rw [hw1]; simp
      rw [← hw1]
      have hG := Lib.hid hnG
      have hB3 := Lib.hid ((hB2.out).trans (hb1.mono (hB2.out).size))
      have hs3 : wG.heap[w.heap.size]? = some (.cells #[.int .i64 room, .int .i64 gap, .slice a L.length cap, .int .i64 (last + 1), .int .i64 lost] 30 (0, 0)) := (hb1.block _ (lt_row hs2)).trans hs2
      have hy3 := Lib.hid ((hb1.block _ (lt_row (hy2.out))).trans (hy2.out))
      have hc3 := Lib.hid (Ow.ext hc2.out (Ext.ofB hb1) (fun _ _ h => h))
      clear hw1 hb1 hnG
      refine ⟨hs3, ?_⟩
      simp only [Act.put, List.getElem_toArray, List.getElem_cons_zero, List.getElem_cons_succ, List.setIfInBounds_toArray, List.set_cons_zero, List.set_cons_succ]
      refine Wr.wpAnyK_one (i := 11) (by kernel_rfl) ?_
      refine Wr.wpOp_appF rfl (by rfl) _ _ _ _ rfl tyOne (w.heap.size + 2) (.slice aC L.length cC) L.length (L.flatMap oc) rfl hc3.out (.slice (some ⟨wC.heap.size, 0, none⟩) 1 1) 1 (oc (letOf last tt text)) rfl (Sl.src (sl_one hG.out rfl) Try.underlying28 (ocF.one (letOf last tt text))) (L.length + 1) rfl ((L ++ [letOf last tt text]).flatMap oc) (by rw [List.flatMap_append, List.flatMap_singleton]) (by unfold maxLen; omega) (by omega) (by have := (hB3.out).size; omega) ?_
      intro aD cD wD hownD hgrD hatD
      have hneD : ∀ j, j < w.heap.size + 2 → some j ≠ (Value.slice aC L.length cC).ownBlock := fun j hj e => by have := (Ow.lt hc3.out j e.symm).1; omega
      have hBD := Below.grown hB3.out hgrD (hB3.out).size (fun j hj => by have := (Ow.lt hc3.out j hj).1; omega)
      have hsD : wD.heap[w.heap.size]? = some (.cells #[.int .i64 room, .int .i64 gap, .slice a L.length cap, .int .i64 (last + 1), .int .i64 lost] 30 (0, 0)) := (hgrD.block _ (lt_row hs3) (hneD _ (by omega))).trans hs3
      have hyD : wD.heap[w.heap.size + 1]? = some (.cells #[.int .i64 0, .int .i64 0, .slice none 0 0, .int .i64 0, .int .i64 0] 30 (0, 0)) := (hgrD.block _ (lt_row (hy3.out)) (hneD _ (by omega))).trans (hy3.out)
      refine ⟨hsD, ?_⟩
      simp only [Act.put, List.getElem_toArray, List.getElem_cons_zero, List.getElem_cons_succ, List.setIfInBounds_toArray, List.set_cons_zero, List.set_cons_succ]
      refine Wr.wpAnyK_takeP (i := 12) (v := ?_) rfl (by kernel_rfl) (fun _ _ _ h => h) (Or.inl ⟨by rfl, ?_⟩) hsD ?_
      rotate_left
      · intro wq _
        go_simp
        rfl
      simp only [Act.put, List.getElem_toArray, List.getElem_cons_zero, List.getElem_cons_succ, List.setIfInBounds_toArray, List.set_cons_zero, List.set_cons_succ]
      refine Wr.wpAnyK_write (i := 13) (by kernel_rfl) (by kernel_rfl) ?_
      have HBD := Lib.hid hBD
      have HOD := Lib.hid hownD
      have HSD := Lib.hid hsD
      have HYD := Lib.hid hyD
      obtain ⟨cD1, fD1⟩ := row_facts hsD
      clear hBD hownD hgrD hneD hyD hsD
      refine wpOp_skip rfl (by rfl) (w' := wD.setCell ⟨w.heap.size, 2, none⟩ (.slice aD (L.length + 1) cD)) (by go_simp; first | done | rfl) ?_
      simp only [Act.put, List.getElem_toArray, List.getElem_cons_zero, List.getElem_cons_succ, List.setIfInBounds_toArray, List.set_cons_zero, List.set_cons_succ]
      refine Wr.wpAnyK_done (by kernel_rfl) (NoPanic.normal ?_) _
      clear cD1 fD1
      obtain ⟨w9, hw9⟩ : ∃ x, x = wD.setCell ⟨w.heap.size, 2, none⟩ (.slice aD (L.length + 1) cD) := ⟨_, rfl⟩
      have HB9 := Lib.hid (show Below w.heap.size w w9 by rw [hw9]; exact Below.setCell HBD.out (p := ⟨w.heap.size, 2, none⟩) (Nat.le_refl _) _)
      have HO9 := Lib.hid (show Ow w9 (w.heap.size + 2) 62 4 (.slice aD (L.length + 1) cD) (L.length + 1) ((L ++ [letOf last tt text]).flatMap oc) by rw [hw9]; exact Ow.ext HOD.out (Ext.set1 wD w.heap.size 2 _) (fun j hj e => by have := (Ow.lt HOD.out j hj).1; omega))
      have hS9 : w9.heap[w.heap.size]? = some (.cells #[.int .i64 room, .int .i64 gap, .slice aD (L.length + 1) cD, .int .i64 (last + 1), .int .i64 lost] 30 (0, 0)) := by rw [hw9]; exact heap_setCell_same HSD.out _
      have HY9 := Lib.hid (show w9.heap[w.heap.size + 1]? = some (.cells #[.int .i64 0, .int .i64 0, .slice none 0 0, .int .i64 0, .int .i64 0] 30 (0, 0)) by rw [hw9, heap_setCell_far _ (by omega)]; exact HYD.out)
      rw [← hw9]
      clear hw9
      go_wp2_with fail
      refine wp_region_noPanic ?_
      refine Wr.region_K (S := (fun W => W.heap[w.heap.size]? = some (.cells #[.int .i64 room, .int .i64 gap, .slice aD (L.length + 1) cD, .int .i64 (last + 1), .int .i64 lost] 30 (0, 0)))) (K := []) (by kernel_rfl) ?_
      change Wr.wpAnyK _ _ _ _ _ _ _ _ _ (World.drew w9)
      have hSZ : (w9.drew).heap[w.heap.size]? = some (.cells #[.int .i64 room, .int .i64 gap, .slice aD (L.length + 1) cD, .int .i64 (last + 1), .int .i64 lost] 30 (0, 0)) := hS9
      obtain ⟨cD2, fD2⟩ := row_facts hS9
      obtain ⟨cD3, fD3⟩ := row_facts HY9.out
      refine Wr.wpAnyK_take (i := 0) (v := ?_) rfl (by kernel_rfl) (fun _ _ _ h => h) (Or.inl ⟨by rfl, ?_⟩) hSZ ?_
      rotate_left
      · intro wq hSw
        obtain ⟨qc, qf⟩ := row_facts hSw
        go_simp
        rfl
      simp only [Act.put, List.getElem_toArray, List.getElem_cons_zero, List.getElem_cons_succ, List.setIfInBounds_toArray, List.set_cons_zero, List.set_cons_succ]
      refine Wr.wpAnyK_takeP (i := 1) (v := ?_) rfl (by kernel_rfl) (fun _ _ _ h => h) (Or.inl ⟨by rfl, ?_⟩) hSZ ?_
      rotate_left
      · intro wq _
        go_simp
        rfl
      simp only [Act.put, List.getElem_toArray, List.getElem_cons_zero, List.getElem_cons_succ, List.setIfInBounds_toArray, List.set_cons_zero, List.set_cons_succ]
      refine Wr.wpAnyK_take (i := 2) (v := ?_) rfl (by kernel_rfl) (fun _ _ _ h => h) (Or.inl ⟨by rfl, ?_⟩) hSZ ?_
      rotate_left
      · intro wq hSw
        obtain ⟨qc, qf⟩ := row_facts hSw
        go_simp
        rfl
      simp only [Act.put, List.getElem_toArray, List.getElem_cons_zero, List.getElem_cons_succ, List.setIfInBounds_toArray, List.set_cons_zero, List.set_cons_succ]
      refine Wr.wpAnyK_one (i := 3) (by kernel_rfl) ?_
      refine wpOp_skip rfl (by rfl) (w' := set5 w9.drew (w.heap.size + 1) (.int .i64 room) (.int .i64 gap) (.slice aD (L.length + 1) cD) (.int .i64 (last + 1)) (.int .i64 lost)) (by unfold set5; go_simp; first | done | rfl) ?_
      have hSZ2 : (set5 w9.drew (w.heap.size + 1) (.int .i64 room) (.int .i64 gap) (.slice aD (L.length + 1) cD) (.int .i64 (last + 1)) (.int .i64 lost)).heap[w.heap.size]? = some (.cells #[.int .i64 room, .int .i64 gap, .slice aD (L.length + 1) cD, .int .i64 (last + 1), .int .i64 lost] 30 (0, 0)) := (set5_far (by omega) _ _ _ _ _).trans hSZ
      refine ⟨hSZ2, ?_⟩
      simp only [Act.put, List.getElem_toArray, List.getElem_cons_zero, List.getElem_cons_succ, List.setIfInBounds_toArray, List.set_cons_zero, List.set_cons_succ]
      refine Wr.wpAnyK_takeP (i := 4) (v := ?_) rfl (by kernel_rfl) (fun _ _ _ h => h) (Or.inl ⟨by rfl, ?_⟩) hSZ2 ?_
      rotate_left
      · intro wq _
        go_simp
        rfl
      simp only [Act.put, List.getElem_toArray, List.getElem_cons_zero, List.getElem_cons_succ, List.setIfInBounds_toArray, List.set_cons_zero, List.set_cons_succ]
      refine Wr.wpAnyK_takeP (i := 5) (v := ?_) rfl (by kernel_rfl) (fun _ _ _ h => h) (Or.inl ⟨by rfl, ?_⟩) hSZ2 ?_
      rotate_left
      · intro wq _
        go_simp
        rfl
      simp only [Act.put, List.getElem_toArray, List.getElem_cons_zero, List.getElem_cons_succ, List.setIfInBounds_toArray, List.set_cons_zero, List.set_cons_succ]
      refine Wr.wpAnyK_done (by kernel_rfl) (NoPanic.normal ?_) _
      obtain ⟨wF, hwF⟩ : ∃ x, x = set5 w9.drew (w.heap.size + 1) (.int .i64 room) (.int .i64 gap) (.slice aD (L.length + 1) cD) (.int .i64 (last + 1)) (.int .i64 lost) := ⟨_, rfl⟩
      have hF : wF.heap[w.heap.size + 1]? = some (.cells #[.int .i64 room, .int .i64 gap, .slice aD (L.length + 1) cD, .int .i64 (last + 1), .int .i64 lost] 30 (0, 0)) := by rw [hwF]; exact set5_row (w := w9.drew) HY9.out _ _ _ _ _
      have hEF : Ext (fun k => k = w.heap.size + 1) w9 wF := by rw [hwF]; exact set5_ext (S := fun k => k = w.heap.size + 1) ((Ext.refl _ w9).drew) (.inl rfl) _ _ _ _ _
      rw [← hwF]
      have HEF := Lib.hid hEF
      obtain ⟨cF, fF⟩ := row_facts hF
      clear hwF hEF hS9 hSZ hSZ2 cD2 fD2 cD3 fD3
      go_wp2
      refine bodyPost_ret (v := .tuple #[.agg #[.int .i64 room, .int .i64 gap, .slice aD (L.length + 1) cD, .int .i64 (last + 1), .int .i64 lost], .int .i64 (last + 1), .int .i64 0]) (by simp [results, Try.results8, go_sem, *]; done) rfl ⟨_, rfl, ?_, ?_⟩
      · exact (Ow.ext HO9.out HEF.out (fun j hj e => by have := (Ow.lt HO9.out j hj).1; omega)).rebase (fun j hj => by have := (Ow.lt HO9.out j hj).1; omega)
      · exact Bl.ext HB9.out HEF.out (fun k hk e => by omega)
    · skip
      refine wpOp_run rfl (by rfl) (v := .slice (some ⟨wE.heap.size, 0, none⟩) 1 1) (w' := wE.alloc (.cells #[.int .i64 (last + 1), .int .i64 tt, .string text, .int .i64 (-1)] 62)) (by go_simp; first | done | rfl | exact ⟨rfl, rfl⟩) ?_
      obtain ⟨wG, hw1⟩ : ∃ x, x = wE.alloc (.cells #[.int .i64 (last + 1), .int .i64 tt, .string text, .int .i64 (-1)] 62) := ⟨_, rfl⟩
      have hb1 : Below wE.heap.size wE wG := by rw [hw1]; exact (Below.refl _ _).alloc (Nat.le_refl _) _
      have hnG : wG.heap[wE.heap.size]? = some (.cells #[.int .i64 (last + 1), .int .i64 tt, .string text, .int .i64 (-1)] 62 (0, 0)) := by rw [hw1]; exact heap_new' _ rfl
      have hzG : wG.heap.size = wE.heap.size + 1 := by rw [hw1]; simp
      rw [← hw1]
      have hG := Lib.hid hnG
      have hB2 := Lib.hid ((hB1.out).trans (hb1.mono (hB1.out).size))
      have hs2 : wG.heap[w.heap.size]? = some (.cells #[.int .i64 room, .int .i64 gap, .slice a L.length cap, .int .i64 (last + 1), .int .i64 lost] 30 (0, 0)) := (hb1.block _ (lt_row hs1)).trans hs1
      have hl2 := Lib.hid (Sl.below hl1.out hb1)
      have hE2 := Lib.hid ((hb1.block _ (lt_row hE.out)).trans hE.out)
      have hy2 := Lib.hid ((hb1.block _ (lt_row (hy1.out))).trans (hy1.out))
      clear hw1 hb1 hnG
      refine ⟨hs2, ?_⟩
      simp only [Act.put, List.getElem_toArray, List.getElem_cons_zero, List.getElem_cons_succ, List.setIfInBounds_toArray, List.set_cons_zero, List.set_cons_succ]
      refine Wr.wpAnyK_one (i := 3) (by kernel_rfl) ?_
      refine Wr.wpOp_appF rfl (by rfl) _ _ _ _ rfl tyOne (w.heap.size + 2) (.slice (some ⟨w0.heap.size, 0, none⟩) 0 0) 0 [] rfl (own_empty hE2.out (by omega)) (.slice a L.length cap) L.length (L.flatMap oc) rfl (Sl.src hl2.out Try.underlying28 (fun u hu => by obtain ⟨y, _, hy⟩ := List.mem_flatMap.1 hu; exact ocF.one y u hy)) L.length (Nat.zero_add _) (L.flatMap oc) (List.nil_append _) (by unfold maxLen; omega) (by omega) (by first | omega | (have := (hB2.out).size; omega)) ?_
      intro aC cC wC hownC hgrC hatC
      have hzC := hgrC.size
      have hneC : ∀ j, j ≠ w0.heap.size → some j ≠ (Value.slice (some ⟨w0.heap.size, 0, none⟩) 0 0).ownBlock := fun j hj e => by simp [Value.ownBlock] at e; omega
      have hB3 := Lib.hid (Below.grown hB2.out hgrC (by first | omega | (have := (hB2.out).size; omega)) (fun j hj => by simp [Value.ownBlock] at hj; omega))
      have hs3 : wC.heap[w.heap.size]? = some (.cells #[.int .i64 room, .int .i64 gap, .slice a L.length cap, .int .i64 (last + 1), .int .i64 lost] 30 (0, 0)) := (hgrC.block _ (lt_row hs2) (hneC _ (by omega))).trans hs2
      have hG3 := Lib.hid ((hgrC.block _ (lt_row hG.out) (hneC _ (by omega))).trans hG.out)
      have hy3 := Lib.hid ((hgrC.block _ (lt_row (hy2.out)) (hneC _ (by omega))).trans (hy2.out))
      have hc3 := Lib.hid hownC
      have hgC : some wE.heap.size ≠ (Value.slice aC L.length cC).ownBlock := fun e => by rcases hatC with h | h <;> rw [h] at e <;> simp [Value.ownBlock] at e <;> omega
      clear hownC
      refine ⟨hs3, ?_⟩
      simp only [Act.put, List.getElem_toArray, List.getElem_cons_zero, List.getElem_cons_succ, List.setIfInBounds_toArray, List.set_cons_zero, List.set_cons_succ]
      refine Wr.wpAnyK_one (i := 11) (by kernel_rfl) ?_
      refine Wr.wpOp_appF rfl (by rfl) _ _ _ _ rfl tyOne (w.heap.size + 2) (.slice aC L.length cC) L.length (L.flatMap oc) rfl hc3.out (.slice (some ⟨wE.heap.size, 0, none⟩) 1 1) 1 (oc (letOf last tt text)) rfl (Sl.src (sl_one hG3.out rfl) Try.underlying28 (ocF.one (letOf last tt text))) (L.length + 1) rfl ((L ++ [letOf last tt text]).flatMap oc) (by rw [List.flatMap_append, List.flatMap_singleton]) (by unfold maxLen; omega) (by omega) (by have := (hB3.out).size; omega) ?_
      intro aD cD wD hownD hgrD hatD
      have hneD : ∀ j, j < w.heap.size + 2 → some j ≠ (Value.slice aC L.length cC).ownBlock := fun j hj e => by have := (Ow.lt hc3.out j e.symm).1; omega
      have hBD := Below.grown hB3.out hgrD (hB3.out).size (fun j hj => by have := (Ow.lt hc3.out j hj).1; omega)
      have hsD : wD.heap[w.heap.size]? = some (.cells #[.int .i64 room, .int .i64 gap, .slice a L.length cap, .int .i64 (last + 1), .int .i64 lost] 30 (0, 0)) := (hgrD.block _ (lt_row hs3) (hneD _ (by omega))).trans hs3
      have hyD : wD.heap[w.heap.size + 1]? = some (.cells #[.int .i64 0, .int .i64 0, .slice none 0 0, .int .i64 0, .int .i64 0] 30 (0, 0)) := (hgrD.block _ (lt_row (hy3.out)) (hneD _ (by omega))).trans (hy3.out)
      refine ⟨hsD, ?_⟩
      simp only [Act.put, List.getElem_toArray, List.getElem_cons_zero, List.getElem_cons_succ, List.setIfInBounds_toArray, List.set_cons_zero, List.set_cons_succ]
      refine Wr.wpAnyK_takeP (i := 12) (v := ?_) rfl (by kernel_rfl) (fun _ _ _ h => h) (Or.inl ⟨by rfl, ?_⟩) hsD ?_
      rotate_left
      · intro wq _
        go_simp
        rfl
      simp only [Act.put, List.getElem_toArray, List.getElem_cons_zero, List.getElem_cons_succ, List.setIfInBounds_toArray, List.set_cons_zero, List.set_cons_succ]
      refine Wr.wpAnyK_write (i := 13) (by kernel_rfl) (by kernel_rfl) ?_
      have HBD := Lib.hid hBD
      have HOD := Lib.hid hownD
      have HSD := Lib.hid hsD
      have HYD := Lib.hid hyD
      obtain ⟨cD1, fD1⟩ := row_facts hsD
      clear hBD hownD hgrD hneD hyD hsD
      refine wpOp_skip rfl (by rfl) (w' := wD.setCell ⟨w.heap.size, 2, none⟩ (.slice aD (L.length + 1) cD)) (by go_simp; first | done | rfl) ?_
      simp only [Act.put, List.getElem_toArray, List.getElem_cons_zero, List.getElem_cons_succ, List.setIfInBounds_toArray, List.set_cons_zero, List.set_cons_succ]
      refine Wr.wpAnyK_done (by kernel_rfl) (NoPanic.normal ?_) _
      clear cD1 fD1
      obtain ⟨w9, hw9⟩ : ∃ x, x = wD.setCell ⟨w.heap.size, 2, none⟩ (.slice aD (L.length + 1) cD) := ⟨_, rfl⟩
      have HB9 := Lib.hid (show Below w.heap.size w w9 by rw [hw9]; exact Below.setCell HBD.out (p := ⟨w.heap.size, 2, none⟩) (Nat.le_refl _) _)
      have HO9 := Lib.hid (show Ow w9 (w.heap.size + 2) 62 4 (.slice aD (L.length + 1) cD) (L.length + 1) ((L ++ [letOf last tt text]).flatMap oc) by rw [hw9]; exact Ow.ext HOD.out (Ext.set1 wD w.heap.size 2 _) (fun j hj e => by have := (Ow.lt HOD.out j hj).1; omega))
      have hS9 : w9.heap[w.heap.size]? = some (.cells #[.int .i64 room, .int .i64 gap, .slice aD (L.length + 1) cD, .int .i64 (last + 1), .int .i64 lost] 30 (0, 0)) := by rw [hw9]; exact heap_setCell_same HSD.out _
      have HY9 := Lib.hid (show w9.heap[w.heap.size + 1]? = some (.cells #[.int .i64 0, .int .i64 0, .slice none 0 0, .int .i64 0, .int .i64 0] 30 (0, 0)) by rw [hw9, heap_setCell_far _ (by omega)]; exact HYD.out)
      rw [← hw9]
      clear hw9
      go_wp2_with fail
      refine wp_region_noPanic ?_
      refine Wr.region_K (S := (fun W => W.heap[w.heap.size]? = some (.cells #[.int .i64 room, .int .i64 gap, .slice aD (L.length + 1) cD, .int .i64 (last + 1), .int .i64 lost] 30 (0, 0)))) (K := []) (by kernel_rfl) ?_
      change Wr.wpAnyK _ _ _ _ _ _ _ _ _ (World.drew w9)
      have hSZ : (w9.drew).heap[w.heap.size]? = some (.cells #[.int .i64 room, .int .i64 gap, .slice aD (L.length + 1) cD, .int .i64 (last + 1), .int .i64 lost] 30 (0, 0)) := hS9
      obtain ⟨cD2, fD2⟩ := row_facts hS9
      obtain ⟨cD3, fD3⟩ := row_facts HY9.out
      refine Wr.wpAnyK_take (i := 0) (v := ?_) rfl (by kernel_rfl) (fun _ _ _ h => h) (Or.inl ⟨by rfl, ?_⟩) hSZ ?_
      rotate_left
      · intro wq hSw
        obtain ⟨qc, qf⟩ := row_facts hSw
        go_simp
        rfl
      simp only [Act.put, List.getElem_toArray, List.getElem_cons_zero, List.getElem_cons_succ, List.setIfInBounds_toArray, List.set_cons_zero, List.set_cons_succ]
      refine Wr.wpAnyK_takeP (i := 1) (v := ?_) rfl (by kernel_rfl) (fun _ _ _ h => h) (Or.inl ⟨by rfl, ?_⟩) hSZ ?_
      rotate_left
      · intro wq _
        go_simp
        rfl
      simp only [Act.put, List.getElem_toArray, List.getElem_cons_zero, List.getElem_cons_succ, List.setIfInBounds_toArray, List.set_cons_zero, List.set_cons_succ]
      refine Wr.wpAnyK_take (i := 2) (v := ?_) rfl (by kernel_rfl) (fun _ _ _ h => h) (Or.inl ⟨by rfl, ?_⟩) hSZ ?_
      rotate_left
      · intro wq hSw
        obtain ⟨qc, qf⟩ := row_facts hSw
        go_simp
        rfl
      simp only [Act.put, List.getElem_toArray, List.getElem_cons_zero, List.getElem_cons_succ, List.setIfInBounds_toArray, List.set_cons_zero, List.set_cons_succ]
      refine Wr.wpAnyK_one (i := 3) (by kernel_rfl) ?_
      refine wpOp_skip rfl (by rfl) (w' := set5 w9.drew (w.heap.size + 1) (.int .i64 room) (.int .i64 gap) (.slice aD (L.length + 1) cD) (.int .i64 (last + 1)) (.int .i64 lost)) (by unfold set5; go_simp; first | done | rfl) ?_
      have hSZ2 : (set5 w9.drew (w.heap.size + 1) (.int .i64 room) (.int .i64 gap) (.slice aD (L.length + 1) cD) (.int .i64 (last + 1)) (.int .i64 lost)).heap[w.heap.size]? = some (.cells #[.int .i64 room, .int .i64 gap, .slice aD (L.length + 1) cD, .int .i64 (last + 1), .int .i64 lost] 30 (0, 0)) := (set5_far (by omega) _ _ _ _ _).trans hSZ
      refine ⟨hSZ2, ?_⟩
      simp only [Act.put, List.getElem_toArray, List.getElem_cons_zero, List.getElem_cons_succ, List.setIfInBounds_toArray, List.set_cons_zero, List.set_cons_succ]
      refine Wr.wpAnyK_takeP (i := 4) (v := ?_) rfl (by kernel_rfl) (fun _ _ _ h => h) (Or.inl ⟨by rfl, ?_⟩) hSZ2 ?_
      rotate_left
      · intro wq _
        go_simp
        rfl
      simp only [Act.put, List.getElem_toArray, List.getElem_cons_zero, List.getElem_cons_succ, List.setIfInBounds_toArray, List.set_cons_zero, List.set_cons_succ]
      refine Wr.wpAnyK_takeP (i := 5) (v := ?_) rfl (by kernel_rfl) (fun _ _ _ h => h) (Or.inl ⟨by rfl, ?_⟩) hSZ2 ?_
      rotate_left
      · intro wq _
        go_simp
        rfl
      simp only [Act.put, List.getElem_toArray, List.getElem_cons_zero, List.getElem_cons_succ, List.setIfInBounds_toArray, List.set_cons_zero, List.set_cons_succ]
      refine Wr.wpAnyK_done (by kernel_rfl) (NoPanic.normal ?_) _
      obtain ⟨wF, hwF⟩ : ∃ x, x = set5 w9.drew (w.heap.size + 1) (.int .i64 room) (.int .i64 gap) (.slice aD (L.length + 1) cD) (.int .i64 (last + 1)) (.int .i64 lost) := ⟨_, rfl⟩
      have hF : wF.heap[w.heap.size + 1]? = some (.cells #[.int .i64 room, .int .i64 gap, .slice aD (L.length + 1) cD, .int .i64 (last + 1), .int .i64 lost] 30 (0, 0)) := by rw [hwF]; exact set5_row (w := w9.drew) HY9.out _ _ _ _ _
      have hEF : Ext (fun k => k = w.heap.size + 1) w9 wF := by rw [hwF]; exact set5_ext (S := fun k => k = w.heap.size + 1) ((Ext.refl _ w9).drew) (.inl rfl) _ _ _ _ _
      rw [← hwF]
      have HEF := Lib.hid hEF
      obtain ⟨cF, fF⟩ := row_facts hF
      clear hwF hEF hS9 hSZ hSZ2 cD2 fD2 cD3 fD3
      go_wp2
      refine bodyPost_ret (v := .tuple #[.agg #[.int .i64 room, .int .i64 gap, .slice aD (L.length + 1) cD, .int .i64 (last + 1), .int .i64 lost], .int .i64 (last + 1), .int .i64 0]) (by simp [results, Try.results8, go_sem, *]; done) rfl ⟨_, rfl, ?_, ?_⟩
      · exact (Ow.ext HO9.out HEF.out (fun j hj e => by have := (Ow.lt HO9.out j hj).1; omega)).rebase (fun j hj => by have := (Ow.lt HO9.out j hj).1; omega)
      · exact Bl.ext HB9.out HEF.out (fun k hk e => by omega)
  · skip
    refine wpOp_run rfl (by rfl) (v := .slice (some ⟨w0.heap.size, 0, none⟩) 1 1) (w' := w0.drew.alloc (.cells #[.int .i64 (last + 1), .int .i64 tt, .string text, .int .i64 (-1)] 62)) (by go_simp; first | done | rfl | exact ⟨rfl, rfl⟩) ?_
    obtain ⟨wG, hw1⟩ : ∃ x, x = w0.drew.alloc (.cells #[.int .i64 (last + 1), .int .i64 tt, .string text, .int .i64 (-1)] 62) := ⟨_, rfl⟩
    have hb1 : Below w0.drew.heap.size w0.drew wG := by rw [hw1]; exact (Below.refl _ _).alloc (Nat.le_refl _) _
    have hnG : wG.heap[w0.heap.size]? = some (.cells #[.int .i64 (last + 1), .int .i64 tt, .string text, .int .i64 (-1)] 62 (0, 0)) := by rw [hw1]; exact heap_new' _ rfl
    have hzG : wG.heap.size = w0.heap.size + 1 := by rw [hw1]; simp
    rw [← hw1]
    have hG := Lib.hid hnG
    have hB1 := Lib.hid ((HB0.out.drew).trans (hb1.mono (HB0.out.drew).size))
    have hs1 : wG.heap[w.heap.size]? = some (.cells #[.int .i64 room, .int .i64 gap, .slice a L.length cap, .int .i64 (last + 1), .int .i64 lost] 30 (0, 0)) := (hb1.block _ (lt_row hS0)).trans hS0
    have hl1 := Lib.hid (Sl.below HSd.out hb1)
    have hy1 := Lib.hid ((hb1.block _ (lt_row (HY0.out))).trans (HY0.out))
    clear hw1 hb1 hnG
    refine ⟨hs1, ?_⟩
    simp only [Act.put, List.getElem_toArray, List.getElem_cons_zero, List.getElem_cons_succ, List.setIfInBounds_toArray, List.set_cons_zero, List.set_cons_succ]
    refine Wr.wpAnyK_one (i := 0) (by kernel_rfl) ?_
    refine wpOp_run rfl (by rfl) (v := .slice (some ⟨wG.heap.size, 0, none⟩) 0 0) (w' := wG.alloc (.cells #[] 62)) (by go_simp; first | done | rfl | exact ⟨rfl, rfl⟩) ?_
    obtain ⟨wE, hw1⟩ : ∃ x, x = wG.alloc (.cells #[] 62) := ⟨_, rfl⟩
    have hb1 : Below wG.heap.size wG wE := by rw [hw1]; exact (Below.refl _ _).alloc (Nat.le_refl _) _
    have hnE : wE.heap[wG.heap.size]? = some (.cells #[] 62 (0, 0)) := by rw [hw1]; exact heap_new' _ rfl
    have hzE : wE.heap.size = wG.heap.size + 1 := by rw [hw1]; simp
    rw [← hw1]
    have hE := Lib.hid hnE
    have hB2 := Lib.hid ((hB1.out).trans (hb1.mono (hB1.out).size))
    have hs2 : wE.heap[w.heap.size]? = some (.cells #[.int .i64 room, .int .i64 gap, .slice a L.length cap, .int .i64 (last + 1), .int .i64 lost] 30 (0, 0)) := (hb1.block _ (lt_row hs1)).trans hs1
    have hl2 := Lib.hid (Sl.below hl1.out hb1)
    have hG2 := Lib.hid ((hb1.block _ (lt_row hG.out)).trans hG.out)
    have hy2 := Lib.hid ((hb1.block _ (lt_row (hy1.out))).trans (hy1.out))
    clear hw1 hb1 hnE
    refine ⟨hs2, ?_⟩
    simp only [Act.put, List.getElem_toArray, List.getElem_cons_zero, List.getElem_cons_succ, List.setIfInBounds_toArray, List.set_cons_zero, List.set_cons_succ]
    refine Wr.wpAnyK_one (i := 3) (by kernel_rfl) ?_
    refine Wr.wpOp_appF rfl (by rfl) _ _ _ _ rfl tyOne (w.heap.size + 2) (.slice (some ⟨wG.heap.size, 0, none⟩) 0 0) 0 [] rfl (own_empty hE.out (by omega)) (.slice a L.length cap) L.length (L.flatMap oc) rfl (Sl.src hl2.out Try.underlying28 (fun u hu => by obtain ⟨y, _, hy⟩ := List.mem_flatMap.1 hu; exact ocF.one y u hy)) L.length (Nat.zero_add _) (L.flatMap oc) (List.nil_append _) (by unfold maxLen; omega) (by omega) (by first | omega | (have := (hB2.out).size; omega)) ?_
    intro aC cC wC hownC hgrC hatC
    have hzC := hgrC.size
    have hneC : ∀ j, j ≠ wG.heap.size → some j ≠ (Value.slice (some ⟨wG.heap.size, 0, none⟩) 0 0).ownBlock := fun j hj e => by simp [Value.ownBlock] at e; omega
    have hB3 := Lib.hid (Below.grown hB2.out hgrC (by first | omega | (have := (hB2.out).size; omega)) (fun j hj => by simp [Value.ownBlock] at hj; omega))
    have hs3 : wC.heap[w.heap.size]? = some (.cells #[.int .i64 room, .int .i64 gap, .slice a L.length cap, .int .i64 (last + 1), .int .i64 lost] 30 (0, 0)) := (hgrC.block _ (lt_row hs2) (hneC _ (by omega))).trans hs2
    have hG3 := Lib.hid ((hgrC.block _ (lt_row hG2.out) (hneC _ (by omega))).trans hG2.out)
    have hy3 := Lib.hid ((hgrC.block _ (lt_row (hy2.out)) (hneC _ (by omega))).trans (hy2.out))
    have hc3 := Lib.hid hownC
    have hgC : some w0.heap.size ≠ (Value.slice aC L.length cC).ownBlock := fun e => by rcases hatC with h | h <;> rw [h] at e <;> simp [Value.ownBlock] at e <;> omega
    clear hownC
    refine ⟨hs3, ?_⟩
    simp only [Act.put, List.getElem_toArray, List.getElem_cons_zero, List.getElem_cons_succ, List.setIfInBounds_toArray, List.set_cons_zero, List.set_cons_succ]
    refine Wr.wpAnyK_one (i := 11) (by kernel_rfl) ?_
    refine Wr.wpOp_appF rfl (by rfl) _ _ _ _ rfl tyOne (w.heap.size + 2) (.slice aC L.length cC) L.length (L.flatMap oc) rfl hc3.out (.slice (some ⟨w0.heap.size, 0, none⟩) 1 1) 1 (oc (letOf last tt text)) rfl (Sl.src (sl_one hG3.out rfl) Try.underlying28 (ocF.one (letOf last tt text))) (L.length + 1) rfl ((L ++ [letOf last tt text]).flatMap oc) (by rw [List.flatMap_append, List.flatMap_singleton]) (by unfold maxLen; omega) (by omega) (by have := (hB3.out).size; omega) ?_
    intro aD cD wD hownD hgrD hatD
    have hneD : ∀ j, j < w.heap.size + 2 → some j ≠ (Value.slice aC L.length cC).ownBlock := fun j hj e => by have := (Ow.lt hc3.out j e.symm).1; omega
    have hBD := Below.grown hB3.out hgrD (hB3.out).size (fun j hj => by have := (Ow.lt hc3.out j hj).1; omega)
    have hsD : wD.heap[w.heap.size]? = some (.cells #[.int .i64 room, .int .i64 gap, .slice a L.length cap, .int .i64 (last + 1), .int .i64 lost] 30 (0, 0)) := (hgrD.block _ (lt_row hs3) (hneD _ (by omega))).trans hs3
    have hyD : wD.heap[w.heap.size + 1]? = some (.cells #[.int .i64 0, .int .i64 0, .slice none 0 0, .int .i64 0, .int .i64 0] 30 (0, 0)) := (hgrD.block _ (lt_row (hy3.out)) (hneD _ (by omega))).trans (hy3.out)
    refine ⟨hsD, ?_⟩
    simp only [Act.put, List.getElem_toArray, List.getElem_cons_zero, List.getElem_cons_succ, List.setIfInBounds_toArray, List.set_cons_zero, List.set_cons_succ]
    refine Wr.wpAnyK_takeP (i := 12) (v := ?_) rfl (by kernel_rfl) (fun _ _ _ h => h) (Or.inl ⟨by rfl, ?_⟩) hsD ?_
    rotate_left
    · intro wq _
      go_simp
      rfl
    simp only [Act.put, List.getElem_toArray, List.getElem_cons_zero, List.getElem_cons_succ, List.setIfInBounds_toArray, List.set_cons_zero, List.set_cons_succ]
    refine Wr.wpAnyK_write (i := 13) (by kernel_rfl) (by kernel_rfl) ?_
    have HBD := Lib.hid hBD
    have HOD := Lib.hid hownD
    have HSD := Lib.hid hsD
    have HYD := Lib.hid hyD
    obtain ⟨cD1, fD1⟩ := row_facts hsD
    clear hBD hownD hgrD hneD hyD hsD
    refine wpOp_skip rfl (by rfl) (w' := wD.setCell ⟨w.heap.size, 2, none⟩ (.slice aD (L.length + 1) cD)) (by go_simp; first | done | rfl) ?_
    simp only [Act.put, List.getElem_toArray, List.getElem_cons_zero, List.getElem_cons_succ, List.setIfInBounds_toArray, List.set_cons_zero, List.set_cons_succ]
    refine Wr.wpAnyK_done (by kernel_rfl) (NoPanic.normal ?_) _
    clear cD1 fD1
    obtain ⟨w9, hw9⟩ : ∃ x, x = wD.setCell ⟨w.heap.size, 2, none⟩ (.slice aD (L.length + 1) cD) := ⟨_, rfl⟩
    have HB9 := Lib.hid (show Below w.heap.size w w9 by rw [hw9]; exact Below.setCell HBD.out (p := ⟨w.heap.size, 2, none⟩) (Nat.le_refl _) _)
    have HO9 := Lib.hid (show Ow w9 (w.heap.size + 2) 62 4 (.slice aD (L.length + 1) cD) (L.length + 1) ((L ++ [letOf last tt text]).flatMap oc) by rw [hw9]; exact Ow.ext HOD.out (Ext.set1 wD w.heap.size 2 _) (fun j hj e => by have := (Ow.lt HOD.out j hj).1; omega))
    have hS9 : w9.heap[w.heap.size]? = some (.cells #[.int .i64 room, .int .i64 gap, .slice aD (L.length + 1) cD, .int .i64 (last + 1), .int .i64 lost] 30 (0, 0)) := by rw [hw9]; exact heap_setCell_same HSD.out _
    have HY9 := Lib.hid (show w9.heap[w.heap.size + 1]? = some (.cells #[.int .i64 0, .int .i64 0, .slice none 0 0, .int .i64 0, .int .i64 0] 30 (0, 0)) by rw [hw9, heap_setCell_far _ (by omega)]; exact HYD.out)
    rw [← hw9]
    clear hw9
    go_wp2_with fail
    refine wp_region_noPanic ?_
    refine Wr.region_K (S := (fun W => W.heap[w.heap.size]? = some (.cells #[.int .i64 room, .int .i64 gap, .slice aD (L.length + 1) cD, .int .i64 (last + 1), .int .i64 lost] 30 (0, 0)))) (K := []) (by kernel_rfl) ?_
    change Wr.wpAnyK _ _ _ _ _ _ _ _ _ (World.drew w9)
    have hSZ : (w9.drew).heap[w.heap.size]? = some (.cells #[.int .i64 room, .int .i64 gap, .slice aD (L.length + 1) cD, .int .i64 (last + 1), .int .i64 lost] 30 (0, 0)) := hS9
    obtain ⟨cD2, fD2⟩ := row_facts hS9
    obtain ⟨cD3, fD3⟩ := row_facts HY9.out
    refine Wr.wpAnyK_take (i := 0) (v := ?_) rfl (by kernel_rfl) (fun _ _ _ h => h) (Or.inl ⟨by rfl, ?_⟩) hSZ ?_
    rotate_left
    · intro wq hSw
      obtain ⟨qc, qf⟩ := row_facts hSw
      go_simp
      rfl
    simp only [Act.put, List.getElem_toArray, List.getElem_cons_zero, List.getElem_cons_succ, List.setIfInBounds_toArray, List.set_cons_zero, List.set_cons_succ]
    refine Wr.wpAnyK_takeP (i := 1) (v := ?_) rfl (by kernel_rfl) (fun _ _ _ h => h) (Or.inl ⟨by rfl, ?_⟩) hSZ ?_
    rotate_left
    · intro wq _
      go_simp
      rfl
    simp only [Act.put, List.getElem_toArray, List.getElem_cons_zero, List.getElem_cons_succ, List.setIfInBounds_toArray, List.set_cons_zero, List.set_cons_succ]
    refine Wr.wpAnyK_take (i := 2) (v := ?_) rfl (by kernel_rfl) (fun _ _ _ h => h) (Or.inl ⟨by rfl, ?_⟩) hSZ ?_
    rotate_left
    · intro wq hSw
      obtain ⟨qc, qf⟩ := row_facts hSw
      go_simp
      rfl
    simp only [Act.put, List.getElem_toArray, List.getElem_cons_zero, List.getElem_cons_succ, List.setIfInBounds_toArray, List.set_cons_zero, List.set_cons_succ]
    refine Wr.wpAnyK_one (i := 3) (by kernel_rfl) ?_
    refine wpOp_skip rfl (by rfl) (w' := set5 w9.drew (w.heap.size + 1) (.int .i64 room) (.int .i64 gap) (.slice aD (L.length + 1) cD) (.int .i64 (last + 1)) (.int .i64 lost)) (by unfold set5; go_simp; first | done | rfl) ?_
    have hSZ2 : (set5 w9.drew (w.heap.size + 1) (.int .i64 room) (.int .i64 gap) (.slice aD (L.length + 1) cD) (.int .i64 (last + 1)) (.int .i64 lost)).heap[w.heap.size]? = some (.cells #[.int .i64 room, .int .i64 gap, .slice aD (L.length + 1) cD, .int .i64 (last + 1), .int .i64 lost] 30 (0, 0)) := (set5_far (by omega) _ _ _ _ _).trans hSZ
    refine ⟨hSZ2, ?_⟩
    simp only [Act.put, List.getElem_toArray, List.getElem_cons_zero, List.getElem_cons_succ, List.setIfInBounds_toArray, List.set_cons_zero, List.set_cons_succ]
    refine Wr.wpAnyK_takeP (i := 4) (v := ?_) rfl (by kernel_rfl) (fun _ _ _ h => h) (Or.inl ⟨by rfl, ?_⟩) hSZ2 ?_
    rotate_left
    · intro wq _
      go_simp
      rfl
    simp only [Act.put, List.getElem_toArray, List.getElem_cons_zero, List.getElem_cons_succ, List.setIfInBounds_toArray, List.set_cons_zero, List.set_cons_succ]
    refine Wr.wpAnyK_takeP (i := 5) (v := ?_) rfl (by kernel_rfl) (fun _ _ _ h => h) (Or.inl ⟨by rfl, ?_⟩) hSZ2 ?_
    rotate_left
    · intro wq _
      go_simp
      rfl
    simp only [Act.put, List.getElem_toArray, List.getElem_cons_zero, List.getElem_cons_succ, List.setIfInBounds_toArray, List.set_cons_zero, List.set_cons_succ]
    refine Wr.wpAnyK_done (by kernel_rfl) (NoPanic.normal ?_) _
    obtain ⟨wF, hwF⟩ : ∃ x, x = set5 w9.drew (w.heap.size + 1) (.int .i64 room) (.int .i64 gap) (.slice aD (L.length + 1) cD) (.int .i64 (last + 1)) (.int .i64 lost) := ⟨_, rfl⟩
    have hF : wF.heap[w.heap.size + 1]? = some (.cells #[.int .i64 room, .int .i64 gap, .slice aD (L.length + 1) cD, .int .i64 (last + 1), .int .i64 lost] 30 (0, 0)) := by rw [hwF]; exact set5_row (w := w9.drew) HY9.out _ _ _ _ _
    have hEF : Ext (fun k => k = w.heap.size + 1) w9 wF := by rw [hwF]; exact set5_ext (S := fun k => k = w.heap.size + 1) ((Ext.refl _ w9).drew) (.inl rfl) _ _ _ _ _
    rw [← hwF]
    have HEF := Lib.hid hEF
    obtain ⟨cF, fF⟩ := row_facts hF
    clear hwF hEF hS9 hSZ hSZ2 cD2 fD2 cD3 fD3
    go_wp2
    refine bodyPost_ret (v := .tuple #[.agg #[.int .i64 room, .int .i64 gap, .slice aD (L.length + 1) cD, .int .i64 (last + 1), .int .i64 lost], .int .i64 (last + 1), .int .i64 0]) (by simp [results, Try.results8, go_sem, *]; done) rfl ⟨_, rfl, ?_, ?_⟩
    · exact (Ow.ext HO9.out HEF.out (fun j hj e => by have := (Ow.lt HO9.out j hj).1; omega)).rebase (fun j hj => by have := (Ow.lt HO9.out j hj).1; omega)
    · exact Bl.ext HB9.out HEF.out (fun k hk e => by omega)


end Go.Proofs.Ytadnldnmefhlcaa.PoB
