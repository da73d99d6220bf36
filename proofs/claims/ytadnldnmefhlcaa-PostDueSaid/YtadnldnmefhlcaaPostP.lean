/-
  WHAT IS PROVED: a mail is put into a box. Condition: what the theorem names.
-/
import Derived.Test.YtadnldnmefhlcaaPostN
import Derived.Test.YtadnldnmefhlcaaPostNe
import Derived.Deep.CutRange
namespace Go.Proofs.Ytadnldnmefhlcaa.PostP
open Go Go.RowKit Go.Shelf Go.Conc Go.Proofs.Ytadnldnmefhlcaa Go.Proofs.Ytadnldnmefhlcaa.PostA Go.Proofs.Ytadnldnmefhlcaa.PostT Go.Proofs.Ytadnldnmefhlcaa.PostF
set_option linter.unusedVariables false
set_option linter.unusedSimpArgs false

theorem Put_range (w : World) (p : Nat) (tt : Int) (text : ByteArray) (h : tt < 0 ∨ 63 < tt) :
    Calls Try.prog 9 #[.pointer (some ⟨p, 0, none⟩), .int .i64 tt, .string text] w fun e w' => e = .returned (.tuple #[.int .i64 0, .int .i64 1]) ∧ w = w' := by
  by_cases h0 : tt < 0
  · have d1 : decide (tt < 0) = true := decide_eq_true h0
    go_enter Try.func9, Try.ntmps9
    go_wp2
    go_ret2
    exact ⟨rfl, rfl⟩
  · have d1 : decide (tt < 0) = false := decide_eq_false h0
    have d2 : decide (63 < tt) = true := decide_eq_true (by omega)
    go_enter Try.func9, Try.ntmps9
    go_wp2
    go_ret2
    exact ⟨rfl, rfl⟩

def letOf (last tt : Int) (text : ByteArray) : Lt := ⟨last + 1, tt, text, 0, false⟩
set_option maxRecDepth 100000 in
set_option maxHeartbeats 2000000 in
theorem Put_room (w : World) (p c cap : Nat) (gap : Int) (L : List Lt) (last lost tt : Int) (text : ByteArray) (h : PostAt w p c cap gap L last lost) (h0 : 0 ≤ tt) (h1 : tt ≤ 63) (hl0 : 0 ≤ last) (hl1 : last ≤ 1000000) (hroom : L.length < cap) :
    Calls Try.prog 9 #[.pointer (some ⟨p, 0, none⟩), .int .i64 tt, .string text] w fun e w' => e = .returned (.tuple #[.int .i64 (last + 1), .int .i64 0]) ∧ PostAt w' p c cap gap (L ++ [letOf last tt text]) (last + 1) lost ∧ Ext (fun k => k = c ∨ k = p) w w' := by
  have hne := h.ne
  obtain ⟨hlen, s0, r0, hc⟩ := h.box
  have hb := h.blk
  have hcap := h.cap0
  have lc := lt_row hc
  have lp := lt_row hb
  have wr1 : IntKind.i64.wrap (last + 1) = last + 1 := IntWalk.i64_in _ (by omega)
  have d1 : decide (tt < 0) = false := decide_eq_false (by omega)
  have d2 : decide (63 < tt) = false := decide_eq_false (by omega)
  obtain ⟨w0, hw0⟩ : ∃ x, x = w.alloc (.cells #[.int .i64 (last + 1), .int .i64 tt, .string text, .int .i64 0, .bool false] 64) := ⟨_, rfl⟩
  have hE0 : Ext (fun k => k = c ∨ k = p) w w0 := by rw [hw0]; exact (Ext.refl _ _).alloc _
  have hx0 : w0.heap[w.heap.size]? = some (.cells #[.int .i64 (last + 1), .int .i64 tt, .string text, .int .i64 0, .bool false] 64 (0, 0)) := by rw [hw0]; exact heap_new _ _
  have hp0 : w0.heap[p]? = some (.cells #[.chan (some c), .int .i64 gap, .int .i64 last, .int .i64 lost] 60 (0, 0)) := by rw [hw0]; exact heap_at hb _
  have hc0 : w0.heap[c]? = some (.chan cap (vs L) false s0 r0 false) := by rw [hw0]; exact heap_at hc _
  have HX0 := Lib.hid hx0
  have HP0 := Lib.hid hp0
  have HC0 := Lib.hid hc0
  have HE0 := Lib.hid hE0
  have HW0 := Lib.hid hw0
  have HV := Lib.hid (vs_size L)
  obtain ⟨cp, fp⟩ := row_facts hb
  clear hw0 hE0 hx0 hp0 hc0 hb hc h
  go_enter Try.func9, Try.ntmps9
  go_upto_region 4 with fail
  rw [← HW0.out]
  clear cp fp
  refine wp_region_noPanic ?_
  refine wp_region_held (S := (fun W => W.heap[w.heap.size]? = some (.cells #[.int .i64 (last + 1), .int .i64 tt, .string text, .int .i64 0, .bool false] 64 (0, 0)) ∧ W.heap[p]? = some (.cells #[.chan (some c), .int .i64 gap, .int .i64 last, .int .i64 lost] 60 (0, 0)))) (by kernel_rfl) ?_
  change wpAnyH _ _ _ _ _ _ _ _ (World.drew w0)
  have hS0 : (w0.drew).heap[w.heap.size]? = some (.cells #[.int .i64 (last + 1), .int .i64 tt, .string text, .int .i64 0, .bool false] 64 (0, 0)) ∧ (w0.drew).heap[p]? = some (.cells #[.chan (some c), .int .i64 gap, .int .i64 last, .int .i64 lost] 60 (0, 0)) := ⟨HX0.out, HP0.out⟩
  refine wpAnyH_take (i := 0) (v := ?_) rfl (by kernel_rfl) (by kernel_rfl) (by kernel_rfl) (fun _ _ _ h => h) (Or.inl ⟨by rfl, ?_⟩) hS0 ?_
  rotate_left
  · intro wq hSw
    obtain ⟨q0, q1⟩ := hSw
    obtain ⟨qc0, qf0⟩ := row_facts q0
    obtain ⟨qc1, qf1⟩ := row_facts q1
    go_simp
    rfl
  simp only [Act.put, List.getElem_toArray, List.getElem_cons_zero, List.getElem_cons_succ, List.setIfInBounds_toArray, List.set_cons_zero, List.set_cons_succ]
  refine wpAnyH_take (i := 1) (v := ?_) rfl (by kernel_rfl) (by kernel_rfl) (by kernel_rfl) (fun _ _ _ h => h) (Or.inl ⟨by rfl, ?_⟩) hS0 ?_
  rotate_left
  · intro wq hSw
    obtain ⟨q0, q1⟩ := hSw
    obtain ⟨qc0, qf0⟩ := row_facts q0
    obtain ⟨qc1, qf1⟩ := row_facts q1
    go_simp
    rfl
  simp only [Act.put, List.getElem_toArray, List.getElem_cons_zero, List.getElem_cons_succ, List.setIfInBounds_toArray, List.set_cons_zero, List.set_cons_succ]
  refine wpAnyH_take (i := 2) (v := ?_) rfl (by kernel_rfl) (by kernel_rfl) (by kernel_rfl) (fun _ _ _ h => h) (Or.inl ⟨by rfl, ?_⟩) hS0 ?_
  rotate_left
  · intro wq hSw
    obtain ⟨q0, q1⟩ := hSw
    obtain ⟨qc0, qf0⟩ := row_facts q0
    obtain ⟨qc1, qf1⟩ := row_facts q1
    go_simp
    rfl
  simp only [Act.put, List.getElem_toArray, List.getElem_cons_zero, List.getElem_cons_succ, List.setIfInBounds_toArray, List.set_cons_zero, List.set_cons_succ]
  refine wpAnyH_take (i := 3) (v := ?_) rfl (by kernel_rfl) (by kernel_rfl) (by kernel_rfl) (fun _ _ _ h => h) (Or.inl ⟨by rfl, ?_⟩) hS0 ?_
  rotate_left
  · intro wq hSw
    obtain ⟨q0, q1⟩ := hSw
    obtain ⟨qc0, qf0⟩ := row_facts q0
    obtain ⟨qc1, qf1⟩ := row_facts q1
    go_simp
    rfl
  simp only [Act.put, List.getElem_toArray, List.getElem_cons_zero, List.getElem_cons_succ, List.setIfInBounds_toArray, List.set_cons_zero, List.set_cons_succ]
  refine wpAnyH_take (i := 4) (v := ?_) rfl (by kernel_rfl) (by kernel_rfl) (by kernel_rfl) (fun _ _ _ h => h) (Or.inl ⟨by rfl, ?_⟩) hS0 ?_
  rotate_left
  · intro wq hSw
    obtain ⟨q0, q1⟩ := hSw
    obtain ⟨qc0, qf0⟩ := row_facts q0
    obtain ⟨qc1, qf1⟩ := row_facts q1
    go_simp
    rfl
  simp only [Act.put, List.getElem_toArray, List.getElem_cons_zero, List.getElem_cons_succ, List.setIfInBounds_toArray, List.set_cons_zero, List.set_cons_succ]
  refine wpAnyH_all (rs := [5]) (by kernel_rfl) (by simp) ?_
  intro i hi
  simp only [List.mem_cons, List.not_mem_nil, or_false] at hi
  subst hi
  refine wpOp_call rfl (by rfl) (by go_simp; first | rfl | exact ⟨⟨rfl, rfl⟩, rfl⟩ | exact ⟨rfl, rfl⟩) ?_
  refine (put_room (World.drew w0) c cap s0 r0 _ (letOf last tt text) HC0.out (by rw [vs_size]; omega)).mono ?_
  rintro e w1 ⟨rfl, hc1, hE1⟩
  have HC1 := Lib.hid hc1
  have HE1 := Lib.hid hE1
  have p1_0 : (w1).heap[w.heap.size]? = some (.cells #[.int .i64 (last + 1), .int .i64 tt, .string text, .int .i64 0, .bool false] 64 (0, 0)) := hE1.blockOf HX0.out (fun h => by omega)
  have p1_1 : (w1).heap[p]? = some (.cells #[.chan (some c), .int .i64 gap, .int .i64 last, .int .i64 lost] 60 (0, 0)) := hE1.blockOf HP0.out (fun h => by omega)
  have hS1 : (w1).heap[w.heap.size]? = some (.cells #[.int .i64 (last + 1), .int .i64 tt, .string text, .int .i64 0, .bool false] 64 (0, 0)) ∧ (w1).heap[p]? = some (.cells #[.chan (some c), .int .i64 gap, .int .i64 last, .int .i64 lost] 60 (0, 0)) := ⟨p1_0, p1_1⟩
  have HP1 := Lib.hid p1_1
  clear hE1 hc1
  refine ⟨_, rfl, ?_, ?_⟩
  · exact hS1
  simp only [Act.put, List.getElem_toArray, List.getElem_cons_zero, List.getElem_cons_succ, List.setIfInBounds_toArray, List.set_cons_zero, List.set_cons_succ]
  refine wpAnyH_take (i := 6) (v := ?_) rfl (by kernel_rfl) (by kernel_rfl) (by kernel_rfl) (fun _ _ _ h => h) (Or.inl ⟨by rfl, ?_⟩) hS1 ?_
  rotate_left
  · intro wq hSw
    obtain ⟨q0, q1⟩ := hSw
    obtain ⟨qc0, qf0⟩ := row_facts q0
    obtain ⟨qc1, qf1⟩ := row_facts q1
    go_simp
    rfl
  simp only [Act.put, List.getElem_toArray, List.getElem_cons_zero, List.getElem_cons_succ, List.setIfInBounds_toArray, List.set_cons_zero, List.set_cons_succ]
  refine wpAnyH_done (by kernel_rfl) (NoPanic.normal ?_) _
  obtain ⟨cp, fp⟩ := row_facts HP1.out
  have lp1 := lt_row HP1.out
  go_wp2
  go_ret2
  have hE : Ext (fun k => k = c ∨ k = p) w w1 := HE0.out.drew.trans (Ext.mono (S' := fun k => k = c ∨ k = p) HE1.out (fun k _ h => Or.inl h))
  refine ⟨rfl, ⟨?_, ⟨by simp; omega, s0 + 1, r0, ?_⟩, hcap⟩, ?_⟩
  · exact heap_setCell_same HP1.out _
  · rw [heap_setCell_far _ (fun h => hne h.symm), HC1.out, ← vs_push]
  · exact hE.setCell (p := ⟨p, 2, none⟩) (.inl (.inr rfl)) _
set_option maxRecDepth 100000 in
set_option maxHeartbeats 2000000 in
theorem Put_full (w : World) (p c cap : Nat) (gap : Int) (L : List Lt) (last lost tt : Int) (text : ByteArray) (h : PostAt w p c cap gap L last lost) (h0 : 0 ≤ tt) (h1 : tt ≤ 63) (hl0 : 0 ≤ last) (hl1 : last ≤ 1000000) (hs0 : 0 ≤ lost) (hs1 : lost ≤ 1000000) (hroom : cap ≤ L.length) :
    Calls Try.prog 9 #[.pointer (some ⟨p, 0, none⟩), .int .i64 tt, .string text] w fun e w' => e = .returned (.tuple #[.int .i64 0, .int .i64 8]) ∧ PostAt w' p c cap gap L last (lost + 1) ∧ Ext (fun k => k = c ∨ k = p) w w' := by
  have hne := h.ne
  obtain ⟨hlen, s0, r0, hc⟩ := h.box
  have hb := h.blk
  have hcap := h.cap0
  have lc := lt_row hc
  have lp := lt_row hb
  have wr1 : IntKind.i64.wrap (last + 1) = last + 1 := IntWalk.i64_in _ (by omega)
  have wr2 : IntKind.i64.wrap (lost + 1) = lost + 1 := IntWalk.i64_in _ (by omega)
  have d1 : decide (tt < 0) = false := decide_eq_false (by omega)
  have d2 : decide (63 < tt) = false := decide_eq_false (by omega)
  obtain ⟨w0, hw0⟩ : ∃ x, x = w.alloc (.cells #[.int .i64 (last + 1), .int .i64 tt, .string text, .int .i64 0, .bool false] 64) := ⟨_, rfl⟩
  have hE0 : Ext (fun k => k = c ∨ k = p) w w0 := by rw [hw0]; exact (Ext.refl _ _).alloc _
  have hx0 : w0.heap[w.heap.size]? = some (.cells #[.int .i64 (last + 1), .int .i64 tt, .string text, .int .i64 0, .bool false] 64 (0, 0)) := by rw [hw0]; exact heap_new _ _
  have hp0 : w0.heap[p]? = some (.cells #[.chan (some c), .int .i64 gap, .int .i64 last, .int .i64 lost] 60 (0, 0)) := by rw [hw0]; exact heap_at hb _
  have hc0 : w0.heap[c]? = some (.chan cap (vs L) false s0 r0 false) := by rw [hw0]; exact heap_at hc _
  have HX0 := Lib.hid hx0
  have HP0 := Lib.hid hp0
  have HC0 := Lib.hid hc0
  have HE0 := Lib.hid hE0
  have HW0 := Lib.hid hw0
  have HV := Lib.hid (vs_size L)
  obtain ⟨cp, fp⟩ := row_facts hb
  clear hw0 hE0 hx0 hp0 hc0 hb hc h
  go_enter Try.func9, Try.ntmps9
  go_upto_region 4 with fail
  rw [← HW0.out]
  clear cp fp
  refine wp_region_noPanic ?_
  refine wp_region_held (S := (fun W => W.heap[w.heap.size]? = some (.cells #[.int .i64 (last + 1), .int .i64 tt, .string text, .int .i64 0, .bool false] 64 (0, 0)) ∧ W.heap[p]? = some (.cells #[.chan (some c), .int .i64 gap, .int .i64 last, .int .i64 lost] 60 (0, 0)))) (by kernel_rfl) ?_
  change wpAnyH _ _ _ _ _ _ _ _ (World.drew w0)
  have hS0 : (w0.drew).heap[w.heap.size]? = some (.cells #[.int .i64 (last + 1), .int .i64 tt, .string text, .int .i64 0, .bool false] 64 (0, 0)) ∧ (w0.drew).heap[p]? = some (.cells #[.chan (some c), .int .i64 gap, .int .i64 last, .int .i64 lost] 60 (0, 0)) := ⟨HX0.out, HP0.out⟩
  refine wpAnyH_take (i := 0) (v := ?_) rfl (by kernel_rfl) (by kernel_rfl) (by kernel_rfl) (fun _ _ _ h => h) (Or.inl ⟨by rfl, ?_⟩) hS0 ?_
  rotate_left
  · intro wq hSw
    obtain ⟨q0, q1⟩ := hSw
    obtain ⟨qc0, qf0⟩ := row_facts q0
    obtain ⟨qc1, qf1⟩ := row_facts q1
    go_simp
    rfl
  simp only [Act.put, List.getElem_toArray, List.getElem_cons_zero, List.getElem_cons_succ, List.setIfInBounds_toArray, List.set_cons_zero, List.set_cons_succ]
  refine wpAnyH_take (i := 1) (v := ?_) rfl (by kernel_rfl) (by kernel_rfl) (by kernel_rfl) (fun _ _ _ h => h) (Or.inl ⟨by rfl, ?_⟩) hS0 ?_
  rotate_left
  · intro wq hSw
    obtain ⟨q0, q1⟩ := hSw
    obtain ⟨qc0, qf0⟩ := row_facts q0
    obtain ⟨qc1, qf1⟩ := row_facts q1
    go_simp
    rfl
  simp only [Act.put, List.getElem_toArray, List.getElem_cons_zero, List.getElem_cons_succ, List.setIfInBounds_toArray, List.set_cons_zero, List.set_cons_succ]
  refine wpAnyH_take (i := 2) (v := ?_) rfl (by kernel_rfl) (by kernel_rfl) (by kernel_rfl) (fun _ _ _ h => h) (Or.inl ⟨by rfl, ?_⟩) hS0 ?_
  rotate_left
  · intro wq hSw
    obtain ⟨q0, q1⟩ := hSw
    obtain ⟨qc0, qf0⟩ := row_facts q0
    obtain ⟨qc1, qf1⟩ := row_facts q1
    go_simp
    rfl
  simp only [Act.put, List.getElem_toArray, List.getElem_cons_zero, List.getElem_cons_succ, List.setIfInBounds_toArray, List.set_cons_zero, List.set_cons_succ]
  refine wpAnyH_take (i := 3) (v := ?_) rfl (by kernel_rfl) (by kernel_rfl) (by kernel_rfl) (fun _ _ _ h => h) (Or.inl ⟨by rfl, ?_⟩) hS0 ?_
  rotate_left
  · intro wq hSw
    obtain ⟨q0, q1⟩ := hSw
    obtain ⟨qc0, qf0⟩ := row_facts q0
    obtain ⟨qc1, qf1⟩ := row_facts q1
    go_simp
    rfl
  simp only [Act.put, List.getElem_toArray, List.getElem_cons_zero, List.getElem_cons_succ, List.setIfInBounds_toArray, List.set_cons_zero, List.set_cons_succ]
  refine wpAnyH_take (i := 4) (v := ?_) rfl (by kernel_rfl) (by kernel_rfl) (by kernel_rfl) (fun _ _ _ h => h) (Or.inl ⟨by rfl, ?_⟩) hS0 ?_
  rotate_left
  · intro wq hSw
    obtain ⟨q0, q1⟩ := hSw
    obtain ⟨qc0, qf0⟩ := row_facts q0
    obtain ⟨qc1, qf1⟩ := row_facts q1
    go_simp
    rfl
  simp only [Act.put, List.getElem_toArray, List.getElem_cons_zero, List.getElem_cons_succ, List.setIfInBounds_toArray, List.set_cons_zero, List.set_cons_succ]
  refine wpAnyH_all (rs := [5]) (by kernel_rfl) (by simp) ?_
  intro i hi
  simp only [List.mem_cons, List.not_mem_nil, or_false] at hi
  subst hi
  refine wpOp_call rfl (by rfl) (by go_simp; first | rfl | exact ⟨⟨rfl, rfl⟩, rfl⟩ | exact ⟨rfl, rfl⟩) ?_
  refine (put_full (World.drew w0) c cap s0 r0 _ (letOf last tt text) HC0.out (by rw [vs_size]; omega)).mono ?_
  rintro e w1 ⟨rfl, hE1⟩
  have HE1 := Lib.hid hE1
  have p1_0 : (w1).heap[w.heap.size]? = some (.cells #[.int .i64 (last + 1), .int .i64 tt, .string text, .int .i64 0, .bool false] 64 (0, 0)) := (hE1.block _ (lt_row HX0.out)).trans HX0.out
  have p1_1 : (w1).heap[p]? = some (.cells #[.chan (some c), .int .i64 gap, .int .i64 last, .int .i64 lost] 60 (0, 0)) := (hE1.block _ (lt_row HP0.out)).trans HP0.out
  have hS1 : (w1).heap[w.heap.size]? = some (.cells #[.int .i64 (last + 1), .int .i64 tt, .string text, .int .i64 0, .bool false] 64 (0, 0)) ∧ (w1).heap[p]? = some (.cells #[.chan (some c), .int .i64 gap, .int .i64 last, .int .i64 lost] 60 (0, 0)) := ⟨p1_0, p1_1⟩
  have HP1 := Lib.hid p1_1
  have HC1 := Lib.hid (show w1.heap[c]? = some (.chan cap (vs L) false s0 r0 false) from (hE1.block _ (lt_row HC0.out)).trans HC0.out)
  clear hE1
  refine ⟨_, rfl, ?_, ?_⟩
  · exact hS1
  simp only [Act.put, List.getElem_toArray, List.getElem_cons_zero, List.getElem_cons_succ, List.setIfInBounds_toArray, List.set_cons_zero, List.set_cons_succ]
  refine wpAnyH_take (i := 6) (v := ?_) rfl (by kernel_rfl) (by kernel_rfl) (by kernel_rfl) (fun _ _ _ h => h) (Or.inl ⟨by rfl, ?_⟩) hS1 ?_
  rotate_left
  · intro wq hSw
    obtain ⟨q0, q1⟩ := hSw
    obtain ⟨qc0, qf0⟩ := row_facts q0
    obtain ⟨qc1, qf1⟩ := row_facts q1
    go_simp
    rfl
  simp only [Act.put, List.getElem_toArray, List.getElem_cons_zero, List.getElem_cons_succ, List.setIfInBounds_toArray, List.set_cons_zero, List.set_cons_succ]
  refine wpAnyH_done (by kernel_rfl) (NoPanic.normal ?_) _
  obtain ⟨cp, fp⟩ := row_facts HP1.out
  have lp1 := lt_row HP1.out
  go_wp2
  go_ret2
  have hE : Ext (fun k => k = c ∨ k = p) w w1 := HE0.out.drew.trans (Ext.of_below HE1.out)
  refine ⟨rfl, ⟨?_, ⟨hlen, s0, r0, ?_⟩, hcap⟩, ?_⟩
  · exact heap_setCell_same HP1.out _
  · rw [heap_setCell_far _ (fun h => hne h.symm), HC1.out]
  · exact hE.setCell (p := ⟨p, 3, none⟩) (.inl (.inr rfl)) _

end Go.Proofs.Ytadnldnmefhlcaa.PostP
