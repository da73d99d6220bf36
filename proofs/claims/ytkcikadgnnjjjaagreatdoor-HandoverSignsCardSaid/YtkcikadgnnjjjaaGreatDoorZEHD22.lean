/-
  WHAT IS PROVED: the document's own check of any key, the public sums of its places, and its ring. Condition: what each theorem names.
-/
import Derived.Test.YtkcikadgnnjjjaaGreatDoorS0
import Derived.Test.YtkcikadgnnjjjaaGreatDoorZEHD21
set_option linter.unusedVariables false
set_option linter.unusedSimpArgs false
set_option maxRecDepth 100000
set_option maxHeartbeats 4000000
namespace Go.Proofs.YtkcikadgnnjjjaaGreatDoor.RkF
open Go Go.RowKit Go.Shelf OctP OctG RowsX Lift ShaS KeyS ShaA ShaB Steps KeyA KeyB KeyG KeyI KeyK TreeA TreeE TreeF TreeG WireT RkA RkB RkC
attribute [-go_sem] Builtin.append_
theorem high2_ok (w : World) (n : Int) : Calls Tryz.prog 31 #[.int .i64 n] w (fun e w' => e = .returned (.bool (decide (0 ≤ n) && decide (n ≤ 7))) ∧ w = w') := by
 by_cases h : 0 ≤ n
 ·rw [decide_eq_true h, Bool.true_and]
  have d0 : decide (0 ≤ n) = true := decide_eq_true h
  go_enter Tryz.func31, Tryz.ntmps31
  go_wp2
  go_ret
  exact ⟨rfl, rfl⟩
 ·rw [decide_eq_false h, Bool.false_and]
  have d0 : decide (0 ≤ n) = false := decide_eq_false h
  go_enter Tryz.func31, Tryz.ntmps31
  go_wp2
  go_ret
  exact ⟨rfl, rfl⟩
theorem places2_ok (w : World) (h : Nat) (hh : h ≤ 7) : Calls Tryz.prog 32 #[.int .i64 h] w (fun e w' => e = .returned (.int .i64 (2 ^ h : Nat)) ∧ w = w') := by
 have hc : h = 0 ∨ h = 1 ∨ h = 2 ∨ h = 3 ∨ h = 4 ∨ h = 5 ∨ h = 6 ∨ h = 7 := by omega
 rcases hc with rfl | rfl | rfl | rfl | rfl | rfl | rfl | rfl
 ·show Calls _ _ #[.int .i64 0] _ (fun e w' => e = .returned (.int .i64 1) ∧ w = w')
  go_enter Tryz.func32, Tryz.ntmps32
  go_wp2
  refine wp_loop_rounds 1 ?_
  rw [rounds_succ]
  go_wp2
  go_ret
  exact ⟨rfl, rfl⟩
 ·show Calls _ _ #[.int .i64 1] _ (fun e w' => e = .returned (.int .i64 2) ∧ w = w')
  go_enter Tryz.func32, Tryz.ntmps32
  go_wp2
  refine wp_loop_rounds 2 ?_
  rw [rounds_succ]
  go_wp2
  rw [rounds_succ]
  go_wp2
  go_ret
  exact ⟨rfl, rfl⟩
 ·show Calls _ _ #[.int .i64 2] _ (fun e w' => e = .returned (.int .i64 4) ∧ w = w')
  go_enter Tryz.func32, Tryz.ntmps32
  go_wp2
  refine wp_loop_rounds 3 ?_
  iterate 3
   rw [rounds_succ]
   go_wp2
  go_ret
  exact ⟨rfl, rfl⟩
 ·show Calls _ _ #[.int .i64 3] _ (fun e w' => e = .returned (.int .i64 8) ∧ w = w')
  go_enter Tryz.func32, Tryz.ntmps32
  go_wp2
  refine wp_loop_rounds 4 ?_
  iterate 4
   rw [rounds_succ]
   go_wp2
  go_ret
  exact ⟨rfl, rfl⟩
 ·show Calls _ _ #[.int .i64 4] _ (fun e w' => e = .returned (.int .i64 16) ∧ w = w')
  go_enter Tryz.func32, Tryz.ntmps32
  go_wp2
  refine wp_loop_rounds 5 ?_
  iterate 5
   rw [rounds_succ]
   go_wp2
  go_ret
  exact ⟨rfl, rfl⟩
 ·show Calls _ _ #[.int .i64 5] _ (fun e w' => e = .returned (.int .i64 32) ∧ w = w')
  go_enter Tryz.func32, Tryz.ntmps32
  go_wp2
  refine wp_loop_rounds 6 ?_
  iterate 6
   rw [rounds_succ]
   go_wp2
  go_ret
  exact ⟨rfl, rfl⟩
 ·show Calls _ _ #[.int .i64 6] _ (fun e w' => e = .returned (.int .i64 64) ∧ w = w')
  go_enter Tryz.func32, Tryz.ntmps32
  go_wp2
  refine wp_loop_rounds 7 ?_
  iterate 7
   rw [rounds_succ]
   go_wp2
  go_ret
  exact ⟨rfl, rfl⟩
 ·show Calls _ _ #[.int .i64 7] _ (fun e w' => e = .returned (.int .i64 128) ∧ w = w')
  go_enter Tryz.func32, Tryz.ntmps32
  go_wp2
  refine wp_loop_rounds 8 ?_
  iterate 8
   rw [rounds_succ]
   go_wp2
  go_ret
  exact ⟨rfl, rfl⟩
def keyB (n : Nat) (h nx : Int) : Bool := decide (1 ≤ n) && (decide (n ≤ 64) && (decide (0 ≤ h) && (decide (h ≤ 7) && (decide (0 ≤ nx) && decide (nx ≤ (2 ^ h.toNat : Nat))))))
theorem keyB_cases (n : Nat) (h nx : Int) : (n = 0 ∧ keyB n h nx = false) ∨ (1 ≤ n ∧ 64 < n ∧ keyB n h nx = false) ∨ (1 ≤ n ∧ n ≤ 64 ∧ (decide (0 ≤ h) && decide (h ≤ 7)) = false ∧ keyB n h nx = false) ∨ (1 ≤ n ∧ n ≤ 64 ∧ (decide (0 ≤ h) && decide (h ≤ 7)) = true ∧ nx < 0 ∧ keyB n h nx = false) ∨ (1 ≤ n ∧ n ≤ 64 ∧ (decide (0 ≤ h) && decide (h ≤ 7)) = true ∧ 0 ≤ nx ∧ keyB n h nx = decide (nx ≤ (2 ^ h.toNat : Nat))) := by
 unfold keyB
 by_cases h1 : 1 ≤ n
 ·by_cases h2 : n ≤ 64
  ·cases h3 : (decide (0 ≤ h) && decide (h ≤ 7))
   ·refine .inr (.inr (.inl ⟨h1, h2, rfl, ?_⟩))
    rw [← Bool.and_assoc (decide (0 ≤ h)), h3]
    simp
   ·by_cases h4 : 0 ≤ nx
    ·refine .inr (.inr (.inr (.inr ⟨h1, h2, rfl, h4, ?_⟩)))
     rw [← Bool.and_assoc (decide (0 ≤ h)), h3]
     simp [h1, h2, h4]
    ·exact .inr (.inr (.inr (.inl ⟨h1, h2, rfl, by omega, by simp [h4]⟩)))
  ·exact .inr (.inl ⟨h1, by omega, by simp [h2]⟩)
 ·exact .inl ⟨by omega, by simp [h1]⟩
theorem Check2_ok (w : World) (s : ByteArray) (h nx : Int) (hs : s.size ≤ maxLen) : Calls Tryz.prog 7 #[.agg (kyA s h nx)] w (RB (.int .i64 (if keyB s.size h nx = true then 0 else 2)) w) := by
 unfold kyA
 unfold maxLen at hs
 have hH := fun w => high2_ok w h
 have hP : ∀ w, (decide (0 ≤ h) && decide (h ≤ 7)) = true → Calls Tryz.prog 32 #[.int .i64 h] w (fun e w' => e = .returned (.int .i64 (2 ^ h.toNat : Nat)) ∧ w = w') := fun w hb => by
  simp only [Bool.and_eq_true, decide_eq_true_eq] at hb
  obtain ⟨m, rfl⟩ : ∃ m : Nat, h = m := ⟨h.toNat, by omega⟩
  exact places2_ok w m (by omega)
 obtain ⟨M, hM⟩ : ∃ M : Nat, M = 2 ^ h.toNat := ⟨_, rfl⟩
 have hc := keyB_cases s.size h nx
 rw [← hM] at hP hc
 obtain ⟨hb, hhb⟩ := nXe ((decide (0 ≤ h) && decide (h ≤ 7)))
 rw [← hhb] at hH hP hc
 obtain ⟨y, hy⟩ : ∃ y : Int, y = (if keyB s.size h nx = true then 0 else 2) := ⟨_, rfl⟩
 rw [← hy]
 have hcase : (s.size = 0 ∧ y = 2) ∨ (1 ≤ s.size ∧ 64 < s.size ∧ y = 2) ∨ (1 ≤ s.size ∧ s.size ≤ 64 ∧ hb = false ∧ y = 2) ∨ (1 ≤ s.size ∧ s.size ≤ 64 ∧ hb = true ∧ nx < 0 ∧ y = 2) ∨ (1 ≤ s.size ∧ s.size ≤ 64 ∧ hb = true ∧ 0 ≤ nx ∧ nx ≤ M ∧ y = 0) ∨ (1 ≤ s.size ∧ s.size ≤ 64 ∧ hb = true ∧ 0 ≤ nx ∧ (M : Int) < nx ∧ y = 2) := by
  rcases hc with ⟨a, e⟩ | ⟨a, b, e⟩ | ⟨a, b, c, e⟩ | ⟨a, b, c, d, e⟩ | ⟨a, b, c, d, e⟩
  ·exact .inl ⟨a, by rw [hy, e]; rfl⟩
  ·exact .inr (.inl ⟨a, b, by rw [hy, e]; rfl⟩)
  ·exact .inr (.inr (.inl ⟨a, b, c, by rw [hy, e]; rfl⟩))
  ·exact .inr (.inr (.inr (.inl ⟨a, b, c, d, by rw [hy, e]; rfl⟩)))
  ·by_cases hq : nx ≤ (M : Int)
   ·exact .inr (.inr (.inr (.inr (.inl ⟨a, b, c, d, hq, by rw [hy, e, decide_eq_true hq]; rfl⟩))))
   ·exact .inr (.inr (.inr (.inr (.inr ⟨a, b, c, d, by omega, by rw [hy, e, decide_eq_false hq]; rfl⟩))))
 have HH := lh hH
 have HP := lh hP
 obtain ⟨w0, hw0⟩ := nXe (w.alloc (.cells #[.string s, .int .i64 h, .int .i64 nx] 23))
 have hb0 : Below w.heap.size w w0 := by rw [hw0]; exact bAx
 have HX0 := lh (show w0.heap[w.heap.size]? = some (.cells #[.string s, .int .i64 h, .int .i64 nx] 23 (0, 0)) by rw [hw0]; exact heap_new _ _)
 have HB0 := lh hb0
 have HW0 := lh hw0
 clear hH hP hM hc hhb hy hw0 hb0
 rcases hcase with ⟨h1, rfl⟩ | ⟨h1, h2, rfl⟩ | ⟨h1, h2, rfl, rfl⟩ | ⟨h1, h2, rfl, h3, rfl⟩ | ⟨h1, h2, rfl, h3, h4, rfl⟩ | ⟨h1, h2, rfl, h3, h4, rfl⟩
 ·skip
  have d1 : decide ((s.size : Int) < 1) = true := decide_eq_true (by omega)
  have d1' : decide (s.size < 1) = true := decide_eq_true (by omega)
  have d1'' : (s.size == 0) = true := by simp [h1]
  have d0'' : decide (s.size = 0) = true := decide_eq_true h1
  go_enter Tryz.func7, Tryz.ntmps7
  go_wp2_with fail
  rw [← HW0.out]
  refine Uniform.region_chain (S := (fun W => W.heap[w.heap.size]? = some (.cells #[.string s, .int .i64 h, .int .i64 nx] 23 (0, 0)) ∧ Below w.heap.size w W)) (List.range 29) (by kernel_rfl) (by kernel_rfl) ⟨HX0.out, (HB0.out).drew⟩ ?_
  iterate 5
   refine ⟨_, ?_, rfl, .inl ⟨by rfl, fun wq hSw => .value (w' := wq) ?_ hSw⟩, ?_⟩
   rotate_left
   ·obtain ⟨q0, q1⟩ := hSw
    obtain ⟨qc0, qf0⟩ := row_facts q0
    go_simp
    rfl
   simp only [Act.put, sxx]
  iterate 4
   refine ⟨_, undef, rfl, Or.inr ⟨by rfl, rfl⟩, ?_⟩
   simp only [Act.put, sxx]
  iterate 2
   refine ⟨_, ?_, rfl, .inl ⟨by rfl, fun wq hSw => .value (w' := wq) ?_ hSw⟩, ?_⟩
   rotate_left
   ·obtain ⟨q0, q1⟩ := hSw
    obtain ⟨qc0, qf0⟩ := row_facts q0
    go_simp
    rfl
   simp only [Act.put, sxx]
  iterate 4
   refine ⟨_, undef, rfl, Or.inr ⟨by rfl, rfl⟩, ?_⟩
   simp only [Act.put, sxx]
  iterate 2
   refine ⟨_, ?_, rfl, .inl ⟨by rfl, fun wq hSw => .value (w' := wq) ?_ hSw⟩, ?_⟩
   rotate_left
   ·obtain ⟨q0, q1⟩ := hSw
    obtain ⟨qc0, qf0⟩ := row_facts q0
    go_simp
    rfl
   simp only [Act.put, sxx]
  iterate 3
   refine ⟨_, undef, rfl, Or.inr ⟨by rfl, rfl⟩, ?_⟩
   simp only [Act.put, sxx]
  iterate 2
   refine ⟨_, ?_, rfl, .inl ⟨by rfl, fun wq hSw => .value (w' := wq) ?_ hSw⟩, ?_⟩
   rotate_left
   ·obtain ⟨q0, q1⟩ := hSw
    obtain ⟨qc0, qf0⟩ := row_facts q0
    go_simp
    rfl
   simp only [Act.put, sxx]
  iterate 6
   refine ⟨_, undef, rfl, Or.inr ⟨by rfl, rfl⟩, ?_⟩
   simp only [Act.put, sxx]
  refine ⟨_, ?_, rfl, .inl ⟨by rfl, fun wq hSw => .value (w' := wq) ?_ hSw⟩, ?_⟩
  rotate_left
  ·obtain ⟨q0, q1⟩ := hSw
   obtain ⟨qc0, qf0⟩ := row_facts q0
   go_simp
   rfl
  simp only [Act.put, sxx]
  intro wz hSz
  obtain ⟨_, q1⟩ := hSz
  go_wp2
  go_ret
  exact ⟨rfl, q1⟩
 ·skip
  have d1 : decide ((s.size : Int) < 1) = false := decide_eq_false (by omega)
  have d1' : decide (s.size < 1) = false := decide_eq_false (by omega)
  have d1'' : (s.size == 0) = false := by rw [beq_eq_false_iff_ne]; omega
  have d0'' : decide (s.size = 0) = false := decide_eq_false (by omega)
  have d2 : decide ((64 : Int) < (s.size : Int)) = true := decide_eq_true (by omega)
  have d2' : decide (64 < s.size) = true := decide_eq_true (by omega)
  go_enter Tryz.func7, Tryz.ntmps7
  go_wp2_with fail
  rw [← HW0.out]
  refine Uniform.region_chain (S := (fun W => W.heap[w.heap.size]? = some (.cells #[.string s, .int .i64 h, .int .i64 nx] 23 (0, 0)) ∧ Below w.heap.size w W)) (List.range 29) (by kernel_rfl) (by kernel_rfl) ⟨HX0.out, (HB0.out).drew⟩ ?_
  iterate 11
   refine ⟨_, ?_, rfl, .inl ⟨by rfl, fun wq hSw => .value (w' := wq) ?_ hSw⟩, ?_⟩
   rotate_left
   ·obtain ⟨q0, q1⟩ := hSw
    obtain ⟨qc0, qf0⟩ := row_facts q0
    go_simp
    rfl
   simp only [Act.put, sxx]
  iterate 4
   refine ⟨_, undef, rfl, Or.inr ⟨by rfl, rfl⟩, ?_⟩
   simp only [Act.put, sxx]
  iterate 2
   refine ⟨_, ?_, rfl, .inl ⟨by rfl, fun wq hSw => .value (w' := wq) ?_ hSw⟩, ?_⟩
   rotate_left
   ·obtain ⟨q0, q1⟩ := hSw
    obtain ⟨qc0, qf0⟩ := row_facts q0
    go_simp
    rfl
   simp only [Act.put, sxx]
  iterate 3
   refine ⟨_, undef, rfl, Or.inr ⟨by rfl, rfl⟩, ?_⟩
   simp only [Act.put, sxx]
  iterate 2
   refine ⟨_, ?_, rfl, .inl ⟨by rfl, fun wq hSw => .value (w' := wq) ?_ hSw⟩, ?_⟩
   rotate_left
   ·obtain ⟨q0, q1⟩ := hSw
    obtain ⟨qc0, qf0⟩ := row_facts q0
    go_simp
    rfl
   simp only [Act.put, sxx]
  iterate 6
   refine ⟨_, undef, rfl, Or.inr ⟨by rfl, rfl⟩, ?_⟩
   simp only [Act.put, sxx]
  refine ⟨_, ?_, rfl, .inl ⟨by rfl, fun wq hSw => .value (w' := wq) ?_ hSw⟩, ?_⟩
  rotate_left
  ·obtain ⟨q0, q1⟩ := hSw
   obtain ⟨qc0, qf0⟩ := row_facts q0
   go_simp
   rfl
  simp only [Act.put, sxx]
  intro wz hSz
  obtain ⟨_, q1⟩ := hSz
  go_wp2
  go_ret
  exact ⟨rfl, q1⟩
 ·skip
  have d1 : decide ((s.size : Int) < 1) = false := decide_eq_false (by omega)
  have d1' : decide (s.size < 1) = false := decide_eq_false (by omega)
  have d1'' : (s.size == 0) = false := by rw [beq_eq_false_iff_ne]; omega
  have d0'' : decide (s.size = 0) = false := decide_eq_false (by omega)
  have d2 : decide ((64 : Int) < (s.size : Int)) = false := decide_eq_false (by omega)
  have d2' : decide (64 < s.size) = false := decide_eq_false (by omega)
  go_enter Tryz.func7, Tryz.ntmps7
  go_wp2_with fail
  rw [← HW0.out]
  refine Uniform.region_chain (S := (fun W => W.heap[w.heap.size]? = some (.cells #[.string s, .int .i64 h, .int .i64 nx] 23 (0, 0)) ∧ Below w.heap.size w W)) (List.range 29) (by kernel_rfl) (by kernel_rfl) ⟨HX0.out, (HB0.out).drew⟩ ?_
  iterate 13
   refine ⟨_, ?_, rfl, .inl ⟨by rfl, fun wq hSw => .value (w' := wq) ?_ hSw⟩, ?_⟩
   rotate_left
   ·obtain ⟨q0, q1⟩ := hSw
    obtain ⟨qc0, qf0⟩ := row_facts q0
    go_simp
    rfl
   simp only [Act.put, sxx]
  refine ⟨_, ?_, rfl, Or.inl ⟨by rfl, fun wq hSw => Uniform.UStep.call (w' := wq) ?_ ((HH.out wq).mono ?_)⟩, ?_⟩
  rotate_left
  ·obtain ⟨q0, q1⟩ := hSw
   obtain ⟨qc0, qf0⟩ := row_facts q0
   go_simp
   all_goals (and_intros <;> rfl)
  ·have hSk := hSw
   obtain ⟨q0, q1⟩ := hSw
   rintro e wq2 ⟨rfl, rfl⟩
   refine ⟨?_, hSk⟩
   rfl
  iterate 3
   simp only [Act.put, sxx]
   refine ⟨_, ?_, rfl, .inl ⟨by rfl, fun wq hSw => .value (w' := wq) ?_ hSw⟩, ?_⟩
   rotate_left
   ·obtain ⟨q0, q1⟩ := hSw
    obtain ⟨qc0, qf0⟩ := row_facts q0
    go_simp
    rfl
  iterate 3
   simp only [Act.put, sxx]
   refine ⟨_, undef, rfl, Or.inr ⟨by rfl, rfl⟩, ?_⟩
  iterate 2
   simp only [Act.put, sxx]
   refine ⟨_, ?_, rfl, .inl ⟨by rfl, fun wq hSw => .value (w' := wq) ?_ hSw⟩, ?_⟩
   rotate_left
   ·obtain ⟨q0, q1⟩ := hSw
    obtain ⟨qc0, qf0⟩ := row_facts q0
    go_simp
    rfl
  iterate 6
   simp only [Act.put, sxx]
   refine ⟨_, undef, rfl, Or.inr ⟨by rfl, rfl⟩, ?_⟩
  simp only [Act.put, sxx]
  refine ⟨_, ?_, rfl, .inl ⟨by rfl, fun wq hSw => .value (w' := wq) ?_ hSw⟩, ?_⟩
  rotate_left
  ·obtain ⟨q0, q1⟩ := hSw
   obtain ⟨qc0, qf0⟩ := row_facts q0
   go_simp
   rfl
  simp only [Act.put, sxx]
  intro wz hSz
  obtain ⟨_, q1⟩ := hSz
  go_wp2
  go_ret
  exact ⟨rfl, q1⟩
 ·skip
  have d1 : decide ((s.size : Int) < 1) = false := decide_eq_false (by omega)
  have d1' : decide (s.size < 1) = false := decide_eq_false (by omega)
  have d1'' : (s.size == 0) = false := by rw [beq_eq_false_iff_ne]; omega
  have d0'' : decide (s.size = 0) = false := decide_eq_false (by omega)
  have d2 : decide ((64 : Int) < (s.size : Int)) = false := decide_eq_false (by omega)
  have d2' : decide (64 < s.size) = false := decide_eq_false (by omega)
  have d3 : decide (nx < 0) = true := decide_eq_true (by omega)
  go_enter Tryz.func7, Tryz.ntmps7
  go_wp2_with fail
  rw [← HW0.out]
  refine Uniform.region_chain (S := (fun W => W.heap[w.heap.size]? = some (.cells #[.string s, .int .i64 h, .int .i64 nx] 23 (0, 0)) ∧ Below w.heap.size w W)) (List.range 29) (by kernel_rfl) (by kernel_rfl) ⟨HX0.out, (HB0.out).drew⟩ ?_
  iterate 13
   refine ⟨_, ?_, rfl, .inl ⟨by rfl, fun wq hSw => .value (w' := wq) ?_ hSw⟩, ?_⟩
   rotate_left
   ·obtain ⟨q0, q1⟩ := hSw
    obtain ⟨qc0, qf0⟩ := row_facts q0
    go_simp
    rfl
   simp only [Act.put, sxx]
  refine ⟨_, ?_, rfl, Or.inl ⟨by rfl, fun wq hSw => Uniform.UStep.call (w' := wq) ?_ ((HH.out wq).mono ?_)⟩, ?_⟩
  rotate_left
  ·obtain ⟨q0, q1⟩ := hSw
   obtain ⟨qc0, qf0⟩ := row_facts q0
   go_simp
   all_goals (and_intros <;> rfl)
  ·have hSk := hSw
   obtain ⟨q0, q1⟩ := hSw
   rintro e wq2 ⟨rfl, rfl⟩
   refine ⟨?_, hSk⟩
   rfl
  iterate 8
   simp only [Act.put, sxx]
   refine ⟨_, ?_, rfl, .inl ⟨by rfl, fun wq hSw => .value (w' := wq) ?_ hSw⟩, ?_⟩
   rotate_left
   ·obtain ⟨q0, q1⟩ := hSw
    obtain ⟨qc0, qf0⟩ := row_facts q0
    go_simp
    rfl
  iterate 6
   simp only [Act.put, sxx]
   refine ⟨_, undef, rfl, Or.inr ⟨by rfl, rfl⟩, ?_⟩
  simp only [Act.put, sxx]
  refine ⟨_, ?_, rfl, .inl ⟨by rfl, fun wq hSw => .value (w' := wq) ?_ hSw⟩, ?_⟩
  rotate_left
  ·obtain ⟨q0, q1⟩ := hSw
   obtain ⟨qc0, qf0⟩ := row_facts q0
   go_simp
   rfl
  simp only [Act.put, sxx]
  intro wz hSz
  obtain ⟨_, q1⟩ := hSz
  go_wp2
  go_ret
  exact ⟨rfl, q1⟩
 ·skip
  have d1 : decide ((s.size : Int) < 1) = false := decide_eq_false (by omega)
  have d1' : decide (s.size < 1) = false := decide_eq_false (by omega)
  have d1'' : (s.size == 0) = false := by rw [beq_eq_false_iff_ne]; omega
  have d0'' : decide (s.size = 0) = false := decide_eq_false (by omega)
  have d2 : decide ((64 : Int) < (s.size : Int)) = false := decide_eq_false (by omega)
  have d2' : decide (64 < s.size) = false := decide_eq_false (by omega)
  have d3 : decide (nx < 0) = false := decide_eq_false (by omega)
  have d4 : decide ((M : Int) < nx) = false := decide_eq_false (by omega)
  go_enter Tryz.func7, Tryz.ntmps7
  go_wp2_with fail
  rw [← HW0.out]
  refine Uniform.region_chain (S := (fun W => W.heap[w.heap.size]? = some (.cells #[.string s, .int .i64 h, .int .i64 nx] 23 (0, 0)) ∧ Below w.heap.size w W)) (List.range 29) (by kernel_rfl) (by kernel_rfl) ⟨HX0.out, (HB0.out).drew⟩ ?_
  iterate 13
   refine ⟨_, ?_, rfl, .inl ⟨by rfl, fun wq hSw => .value (w' := wq) ?_ hSw⟩, ?_⟩
   rotate_left
   ·obtain ⟨q0, q1⟩ := hSw
    obtain ⟨qc0, qf0⟩ := row_facts q0
    go_simp
    rfl
   simp only [Act.put, sxx]
  refine ⟨_, ?_, rfl, Or.inl ⟨by rfl, fun wq hSw => Uniform.UStep.call (w' := wq) ?_ ((HH.out wq).mono ?_)⟩, ?_⟩
  rotate_left
  ·obtain ⟨q0, q1⟩ := hSw
   obtain ⟨qc0, qf0⟩ := row_facts q0
   go_simp
   all_goals (and_intros <;> rfl)
  ·have hSk := hSw
   obtain ⟨q0, q1⟩ := hSw
   rintro e wq2 ⟨rfl, rfl⟩
   refine ⟨?_, hSk⟩
   rfl
  iterate 12
   simp only [Act.put, sxx]
   refine ⟨_, ?_, rfl, .inl ⟨by rfl, fun wq hSw => .value (w' := wq) ?_ hSw⟩, ?_⟩
   rotate_left
   ·obtain ⟨q0, q1⟩ := hSw
    obtain ⟨qc0, qf0⟩ := row_facts q0
    go_simp
    rfl
  simp only [Act.put, sxx]
  refine ⟨_, ?_, rfl, Or.inl ⟨by rfl, fun wq hSw => Uniform.UStep.call (w' := wq) ?_ ((HP.out wq (by trivial)).mono ?_)⟩, ?_⟩
  rotate_left
  ·obtain ⟨q0, q1⟩ := hSw
   obtain ⟨qc0, qf0⟩ := row_facts q0
   go_simp
   all_goals (and_intros <;> rfl)
  ·have hSk := hSw
   obtain ⟨q0, q1⟩ := hSw
   rintro e wq2 ⟨rfl, rfl⟩
   refine ⟨?_, hSk⟩
   rfl
  iterate 2
   simp only [Act.put, sxx]
   refine ⟨_, ?_, rfl, .inl ⟨by rfl, fun wq hSw => .value (w' := wq) ?_ hSw⟩, ?_⟩
   rotate_left
   ·obtain ⟨q0, q1⟩ := hSw
    obtain ⟨qc0, qf0⟩ := row_facts q0
    go_simp
    rfl
  simp only [Act.put, sxx]
  intro wz hSz
  obtain ⟨_, q1⟩ := hSz
  go_wp2
  go_ret
  exact ⟨rfl, q1⟩
 ·skip
  have d1 : decide ((s.size : Int) < 1) = false := decide_eq_false (by omega)
  have d1' : decide (s.size < 1) = false := decide_eq_false (by omega)
  have d1'' : (s.size == 0) = false := by rw [beq_eq_false_iff_ne]; omega
  have d0'' : decide (s.size = 0) = false := decide_eq_false (by omega)
  have d2 : decide ((64 : Int) < (s.size : Int)) = false := decide_eq_false (by omega)
  have d2' : decide (64 < s.size) = false := decide_eq_false (by omega)
  have d3 : decide (nx < 0) = false := decide_eq_false (by omega)
  have d4 : decide ((M : Int) < nx) = true := decide_eq_true (by omega)
  go_enter Tryz.func7, Tryz.ntmps7
  go_wp2_with fail
  rw [← HW0.out]
  refine Uniform.region_chain (S := (fun W => W.heap[w.heap.size]? = some (.cells #[.string s, .int .i64 h, .int .i64 nx] 23 (0, 0)) ∧ Below w.heap.size w W)) (List.range 29) (by kernel_rfl) (by kernel_rfl) ⟨HX0.out, (HB0.out).drew⟩ ?_
  iterate 13
   refine ⟨_, ?_, rfl, .inl ⟨by rfl, fun wq hSw => .value (w' := wq) ?_ hSw⟩, ?_⟩
   rotate_left
   ·obtain ⟨q0, q1⟩ := hSw
    obtain ⟨qc0, qf0⟩ := row_facts q0
    go_simp
    rfl
   simp only [Act.put, sxx]
  refine ⟨_, ?_, rfl, Or.inl ⟨by rfl, fun wq hSw => Uniform.UStep.call (w' := wq) ?_ ((HH.out wq).mono ?_)⟩, ?_⟩
  rotate_left
  ·obtain ⟨q0, q1⟩ := hSw
   obtain ⟨qc0, qf0⟩ := row_facts q0
   go_simp
   all_goals (and_intros <;> rfl)
  ·have hSk := hSw
   obtain ⟨q0, q1⟩ := hSw
   rintro e wq2 ⟨rfl, rfl⟩
   refine ⟨?_, hSk⟩
   rfl
  iterate 12
   simp only [Act.put, sxx]
   refine ⟨_, ?_, rfl, .inl ⟨by rfl, fun wq hSw => .value (w' := wq) ?_ hSw⟩, ?_⟩
   rotate_left
   ·obtain ⟨q0, q1⟩ := hSw
    obtain ⟨qc0, qf0⟩ := row_facts q0
    go_simp
    rfl
  simp only [Act.put, sxx]
  refine ⟨_, ?_, rfl, Or.inl ⟨by rfl, fun wq hSw => Uniform.UStep.call (w' := wq) ?_ ((HP.out wq (by trivial)).mono ?_)⟩, ?_⟩
  rotate_left
  ·obtain ⟨q0, q1⟩ := hSw
   obtain ⟨qc0, qf0⟩ := row_facts q0
   go_simp
   all_goals (and_intros <;> rfl)
  ·have hSk := hSw
   obtain ⟨q0, q1⟩ := hSw
   rintro e wq2 ⟨rfl, rfl⟩
   refine ⟨?_, hSk⟩
   rfl
  iterate 2
   simp only [Act.put, sxx]
   refine ⟨_, ?_, rfl, .inl ⟨by rfl, fun wq hSw => .value (w' := wq) ?_ hSw⟩, ?_⟩
   rotate_left
   ·obtain ⟨q0, q1⟩ := hSw
    obtain ⟨qc0, qf0⟩ := row_facts q0
    go_simp
    rfl
  simp only [Act.put, sxx]
  intro wz hSz
  obtain ⟨_, q1⟩ := hSz
  go_wp2
  go_ret
  exact ⟨rfl, q1⟩
theorem leaves2_ok (w : World) (s : ByteArray) (h : Nat) (nx : Int) (hh : h ≤ 7) (hs : s.size ≤ 64) : Calls Tryz.prog 42 #[.agg (kyA s h nx)] w fun e w' => ∃ v, e = .returned v ∧ AccR 25 32 H32.cs w w' v (leavesH (bl s) (2 ^ h)) := by
 have hP := fun w => places2_ok w h hh
 obtain ⟨M, hM⟩ := nXe (2 ^ h)
 have hM128 : M ≤ 128 := by rw [hM]; exact Nat.le_trans (Nat.pow_le_pow_right (by omega) hh) (by omega)
 rw [← hM] at hP ⊢
 have hS := fun w i (hi : i < 256) => seed2_ok w s h nx i hi (by omega)
 obtain ⟨K, hK⟩ := nXe (kyA s h nx)
 have hKc : K[1]? = some (.int .i64 (h : Int)) := by rw [hK]; rfl
 have HKS := lh (show (Tryz.prog.info? 23).map (·.size) = some K.size by rw [hK]; kernel_rfl)
 rw [← hK] at hS ⊢
 have HP := lh hP
 have HS := lh hS
 have HKc := lh hKc
 obtain ⟨w0, hw0⟩ := nXe (w.alloc (.cells K 23))
 have hb0 : Below w.heap.size w w0 := by rw [hw0]; exact bAx
 have HX0 := lh (show w0.heap[w.heap.size]? = some (.cells K 23 (0, 0)) by rw [hw0]; exact heap_new _ _)
 have HW0 := lh hw0
 have Hnil := lh (AccR.below (AccR.nil (f := H32.cs) (e := 25) (size := 32) w) hb0)
 clear hP hS hK hKc hM hw0 hb0
 go_enter Tryz.func42, Tryz.ntmps42
 go_wp2
 rw [← HW0.out]
 go_loopw [3, 4] (fun x i wr => ∃ (k : Nat) (v : Value), x = v ∧ i = .int .i64 k ∧ k ≤ M ∧ AccR 25 32 H32.cs w wr v (leavesH (bl s) k) ∧ wr.heap[w.heap.size]? = some (.cells K 23 (0, 0)))
  (fun _ i _ => M - (intOf i).toNat)
 case atStart => exact ⟨0, _, rfl, rfl, by omega, Hnil.out, HX0.out⟩
 case round =>
  obtain ⟨k, v, rfl, rfl, hk, hA, hx⟩ := hrel
  have HA := lh hA
  have HX := lh hx
  have hc1 : wr.cell? ⟨w.heap.size, 1, none⟩ = some (.int .i64 (h : Int)) := (cell_row hx).trans HKc.out
  have hll : (leavesH (bl s) k).length = k := leavesH_length _ _
  have hsucc : leavesH (bl s) (k + 1) = leavesH (bl s) k ++ [leafH (bl s) k] := leavesH_succ _ _
  obtain ⟨l0, hl0⟩ := nXe (leavesH (bl s) k)
  obtain ⟨lf, hlf⟩ := nXe (leafH (bl s) k)
  rw [← hl0, ← hlf] at hsucc
  rw [← hl0] at hll HA
  have HLL := lh hll
  have HSUCC := lh hsucc
  have HLF := lh hlf
  have HL0 := lh hl0
  clear hA hx hll Hnil HX0 hsucc hl0 hlf
  go_wp2_with fail
  refine (HP.out wr).mono ?_
  rintro e w' ⟨rfl, rfl⟩
  by_cases hlt : k < M
  ·skip
   have hk256 : k < 256 := by omega
   obtain ⟨C, hC⟩ := nXe (bsOf (placeSeed (bl s) k))
   have hCs : C.size ≤ 1000 := by rw [hC, size_bsOf]; unfold placeSeed; rw [mid_length]; omega
   have hPub := fun w => RkB.Public2_ok w C hCs
   rw [show (byV (pub (bl C))).toArray = lf.A from by rw [hC, bl_bsOf, HLF.out, leafH_A]] at hPub
   have hSk := fun w => HS.out w k hk256
   rw [← hC] at hSk
   obtain ⟨E, hE⟩ : ∃ E : Array Value, E = (lf).A := ⟨_, rfl⟩
   have hEn : E.size = 32 := by rw [hE]; exact H32.size _
   have HES := lh (show (Tryz.prog.info? 25).map (·.size) = some E.size by rw [hE]; exact H32.info _)
   have HEN := lh (show 32 = E.size by rw [hE]; exact (H32.size _).symm)
   have HEO := lh (show E.all (·.oneCell') = true by rw [hE]; exact H32.one _)
   have HEe := lh hE
   rw [← hE] at hPub
   have HPub := lh hPub
   have HSk := lh hSk
   clear hPub hSk hC hE
   go_wp2_with (first | (refine wpList_load_row rfl _ _ rfl w.heap.size rfl _ K (0, 0) _ HX.out Tryz.underlying23 rfl HKS.out ?_) | fail)
   refine (HSk.out wr).mono ?_
   rintro e w2 ⟨rfl, hb⟩
   have HA2 := lh (HA.out.below hb)
   have HX2 := kpB hb HX
   clear hb hc1
   go_wp2_with fail
   refine (HPub.out w2).mono ?_
   rintro e w3 ⟨rfl, hb⟩
   have HA3 := lh (HA2.out.below hb)
   have HX3 := kpB hb HX2
   clear hb
   go_wp2_with (at_builtin; rw [fold_row E hEn]; go_must (refine RkW.wpList_accK tyHs hF HA3.out lf rfl _ _ rfl rfl E (by rw [HEe.out]; rfl) _ rfl (by first | rfl | simp) ?hl ?hb ?go))
   case hl => rw [HLL.out]; unfold maxLen; omega
   case hb => rw [HLL.out]; omega
   case go =>
   intro v4 w4 A4 K4
   have HA4 := lh (show AccR 25 32 H32.cs w w4 v4 (l0 ++ [lf]) from A4)
   have HX4 := lh (show w4.heap[w.heap.size]? = some (.cells K 23 (0, 0)) by first | exact K4 _ _ _ _ HX3.out (by decide) | exact K4 _ _ _ _ _ HX3.out (by decide))
   clear A4 K4
   go_wp2
   go_roundw
   case rel => exact ⟨k + 1, _, rfl, by go_num, by omega, by rw [HSUCC.out]; exact HA4.out, HX4.out⟩
   case measure => simp [intOf]; omega
  ·skip
   obtain rfl : k = M := by omega
   go_wp2
   go_ret
   exact ⟨_, rfl, by rw [← HL0.out]; exact HA.out⟩
end Go.Proofs.YtkcikadgnnjjjaaGreatDoor.RkF
