/-
  WHAT IS PROVED: contracts of functions, and plain laws. Condition: what each theorem names.
-/
import Derived.Test.YtadofbbpfgmclaaGreatDoorS0
import Derived.Test.YtadofbbpfgmclaaGreatDoorZH24
set_option linter.unusedVariables false
set_option linter.unusedSimpArgs false
set_option maxRecDepth 100000
set_option maxHeartbeats 4000000
namespace Go.Proofs.YtadofbbpfgmclaaGreatDoor.PkC
open Go.Proofs.Tryz
open Go Go.RowKit Go.Shelf OctP OctG RowsX Lift ShaS KeyS ShaA ShaB Steps KeyA KeyB KeyG KeyI KeyK TreeA TreeE TreeF TreeG WireT RkF KeyH
attribute [-go_sem] Builtin.append_
theorem high_any (w : World) (n : Int) : Calls Tryz.prog 64 #[.int .i64 n] w (fun e w' => e = .returned (.bool (decide (0 ≤ n) && decide (n ≤ 7))) ∧ w = w') := by
 by_cases h : 0 ≤ n
 ·rw [dT h, Bool.true_and]
  have d0 : decide (0 ≤ n) = true := dT h
  go_enter func64, ntmps64
  go_wp2
  go_ret
  exact ⟨rfl, rfl⟩
 ·rw [dF h, Bool.false_and]
  have d0 : decide (0 ≤ n) = false := dF h
  go_enter func64, ntmps64
  go_wp2
  go_ret
  exact ⟨rfl, rfl⟩
theorem Check_any (w : World) (s : ByteArray) (h nx : Int) (hs : s.size ≤ maxLen) : Calls Tryz.prog 40 #[.agg (kyA s h nx)] w (RB (.int .i64 (if keyB s.size h nx = true then 0 else 2)) w) := by
 unfold kyA
 unfold maxLen at hs
 have hH := fun w => high_any w h
 obtain ⟨M, hM⟩ : ∃ M : Nat, M = 2 ^ h.toNat := ⟨_, rfl⟩
 have hc := keyB_cases s.size h nx
 rw [← hM] at hc
 have hP : (decide (0 ≤ h) && decide (h ≤ 7)) = true → ∃ m : Nat, h = m ∧ m ≤ 7 ∧ IntKind.i64.wrap ((2 : Int) ^ m) = (M : Int) ∧ M ≤ 128 := fun hb => by
  simp only [Bool.and_eq_true, decide_eq_true_eq] at hb
  obtain ⟨m, rfl⟩ : ∃ m : Nat, h = m := ⟨h.toNat, by omega⟩
  obtain ⟨hp, hM8⟩ := KeyH.Fj m (by omega)
  rw [Int.toNat_natCast] at hM
  rw [← hM] at hp hM8
  exact ⟨m, rfl, by omega, by unfold wrap64 at hp; rw [IntKind.wrap_i64]; exact hp, hM8⟩
 obtain ⟨hb, hhb⟩ := nXe ((decide (0 ≤ h) && decide (h ≤ 7)))
 rw [← hhb] at hH hP hc
 obtain ⟨y, hy⟩ : ∃ y : Int, y = (if keyB s.size h nx = true then 0 else 2) := ⟨_, rfl⟩
 rw [← hy]
 have hcase : (s.size = 0 ∧ y = 2) ∨ (1 ≤ s.size ∧ 64 < s.size ∧ y = 2) ∨ (1 ≤ s.size ∧ s.size ≤ 64 ∧ hb = false ∧ y = 2) ∨ (1 ≤ s.size ∧ s.size ≤ 64 ∧ hb = true ∧ nx < 0 ∧ y = 2) ∨ (1 ≤ s.size ∧ s.size ≤ 64 ∧ hb = true ∧ 0 ≤ nx ∧ nx ≤ M ∧ y = 0) ∨ (1 ≤ s.size ∧ s.size ≤ 64 ∧ hb = true ∧ 0 ≤ nx ∧ (M : Int) < nx ∧ y = 2) := by
  rcases hc with ⟨a, e⟩ | ⟨a, b, e⟩ | ⟨a, b, c, e⟩ | ⟨a, b, c, d, e⟩ | ⟨a, b, c, d, e⟩
  ·exact .inl ⟨a, by rw [hy, e]; rfl⟩
  ·exact .inr (.inl ⟨a, b, by rw [hy, e]; rfl⟩)
  ·exact .inr (.inr (.inl ⟨a, b, c, by rw [hy, e]; rfl⟩))
  ·exact .inr (.inr (.inr (.inl ⟨a, b, c, d, by rw [hy, e]; rfl⟩)))
  ·by_cases hq : nx ≤ (M : Int)
   ·exact .inr (.inr (.inr (.inr (.inl ⟨a, b, c, d, hq, by rw [hy, e, dT hq]; rfl⟩))))
   ·exact .inr (.inr (.inr (.inr (.inr ⟨a, b, c, d, by omega, by rw [hy, e, dF hq]; rfl⟩))))
 have HH := lh hH
 obtain ⟨w0, hw0⟩ := nXe (w.alloc (.cells #[.string s, .int .i64 h, .int .i64 nx] 40))
 have hb0 : Below w.heap.size w w0 := by rw [hw0]; exact bAx
 have HX0 := lh (show w0.heap[w.heap.size]? = some (.cells #[.string s, .int .i64 h, .int .i64 nx] 40 (0, 0)) by rw [hw0]; exact AL _ _)
 obtain ⟨HB0, HW0⟩ := l2h hb0 hw0
 clear hH hM hc hhb hy hw0 hb0
 rcases hcase with ⟨h1, rfl⟩ | ⟨h1, h2, rfl⟩ | ⟨h1, h2, rfl, rfl⟩ | ⟨h1, h2, rfl, h3, rfl⟩ | ⟨h1, h2, rfl, h3, h4, rfl⟩ | ⟨h1, h2, rfl, h3, h4, rfl⟩
 ·skip
  have d1 : ((s.size : Int) == 0) = true := by rw [h1]; rfl
  have d1'' : (s.size == 0) = true := by simp [h1]
  have d0'' : decide (s.size = 0) = true := dT h1
  clear hP
  go_enter func40, ntmps40
  go_wp2_with fail
  rw [← HW0.out]
  refine Uniform.Ak (S := (fun W => W.heap[w.heap.size]? = some (.cells #[.string s, .int .i64 h, .int .i64 nx] 40 (0, 0)) ∧ Below w.heap.size w W)) (List.range 29) (by kernel_rfl) (by kernel_rfl) ⟨HX0.out, (HB0.out).drew⟩ ?_
  iterate 5
   refine ⟨_, ?_, rfl, .inl ⟨by rfl, fun wq hSw => .value (w' := wq) ?_ hSw⟩, ?_⟩
   rotate_left
   ·obtain ⟨q0, q1⟩ := hSw
    obtain ⟨qc0, qf0⟩ := AJ q0
    go_simp
    rfl
   simp only [Act.put, sxx]
  iterate 4
   refine ⟨_, undef, rfl, Or.inr ⟨by rfl, rfl⟩, ?_⟩
   simp only [Act.put, sxx]
  iterate 2
   refine ⟨_, ?_, rfl, .inl ⟨by rfl, fun wq hSw => .value (w' := wq) ?_ hSw⟩, ?_⟩
   rotate_left
   ·obtain ⟨q0, q1⟩ := hSw
    obtain ⟨qc0, qf0⟩ := AJ q0
    go_simp
    rfl
   simp only [Act.put, sxx]
  iterate 4
   refine ⟨_, undef, rfl, Or.inr ⟨by rfl, rfl⟩, ?_⟩
   simp only [Act.put, sxx]
  iterate 2
   refine ⟨_, ?_, rfl, .inl ⟨by rfl, fun wq hSw => .value (w' := wq) ?_ hSw⟩, ?_⟩
   rotate_left
   ·obtain ⟨q0, q1⟩ := hSw
    obtain ⟨qc0, qf0⟩ := AJ q0
    go_simp
    rfl
   simp only [Act.put, sxx]
  iterate 3
   refine ⟨_, undef, rfl, Or.inr ⟨by rfl, rfl⟩, ?_⟩
   simp only [Act.put, sxx]
  iterate 2
   refine ⟨_, ?_, rfl, .inl ⟨by rfl, fun wq hSw => .value (w' := wq) ?_ hSw⟩, ?_⟩
   rotate_left
   ·obtain ⟨q0, q1⟩ := hSw
    obtain ⟨qc0, qf0⟩ := AJ q0
    go_simp
    rfl
   simp only [Act.put, sxx]
  iterate 6
   refine ⟨_, undef, rfl, Or.inr ⟨by rfl, rfl⟩, ?_⟩
   simp only [Act.put, sxx]
  refine ⟨_, ?_, rfl, .inl ⟨by rfl, fun wq hSw => .value (w' := wq) ?_ hSw⟩, ?_⟩
  rotate_left
  ·obtain ⟨q0, q1⟩ := hSw
   obtain ⟨qc0, qf0⟩ := AJ q0
   go_simp
   rfl
  simp only [Act.put, sxx]
  intro wz hSz
  obtain ⟨_, q1⟩ := hSz
  go_wp2
  go_ret
  exact ⟨rfl, q1⟩
 ·skip
  have d1 : ((s.size : Int) == 0) = false := by rw [beq_eq_false_iff_ne]; omega
  have d1'' : (s.size == 0) = false := by rw [beq_eq_false_iff_ne]; omega
  have d0'' : decide (s.size = 0) = false := dF (by omega)
  have d2 : decide ((64 : Int) < (s.size : Int)) = true := dT (by omega)
  have d2' : decide (64 < s.size) = true := dT (by omega)
  clear hP
  go_enter func40, ntmps40
  go_wp2_with fail
  rw [← HW0.out]
  refine Uniform.Ak (S := (fun W => W.heap[w.heap.size]? = some (.cells #[.string s, .int .i64 h, .int .i64 nx] 40 (0, 0)) ∧ Below w.heap.size w W)) (List.range 29) (by kernel_rfl) (by kernel_rfl) ⟨HX0.out, (HB0.out).drew⟩ ?_
  iterate 11
   refine ⟨_, ?_, rfl, .inl ⟨by rfl, fun wq hSw => .value (w' := wq) ?_ hSw⟩, ?_⟩
   rotate_left
   ·obtain ⟨q0, q1⟩ := hSw
    obtain ⟨qc0, qf0⟩ := AJ q0
    go_simp
    rfl
   simp only [Act.put, sxx]
  iterate 4
   refine ⟨_, undef, rfl, Or.inr ⟨by rfl, rfl⟩, ?_⟩
   simp only [Act.put, sxx]
  iterate 2
   refine ⟨_, ?_, rfl, .inl ⟨by rfl, fun wq hSw => .value (w' := wq) ?_ hSw⟩, ?_⟩
   rotate_left
   ·obtain ⟨q0, q1⟩ := hSw
    obtain ⟨qc0, qf0⟩ := AJ q0
    go_simp
    rfl
   simp only [Act.put, sxx]
  iterate 3
   refine ⟨_, undef, rfl, Or.inr ⟨by rfl, rfl⟩, ?_⟩
   simp only [Act.put, sxx]
  iterate 2
   refine ⟨_, ?_, rfl, .inl ⟨by rfl, fun wq hSw => .value (w' := wq) ?_ hSw⟩, ?_⟩
   rotate_left
   ·obtain ⟨q0, q1⟩ := hSw
    obtain ⟨qc0, qf0⟩ := AJ q0
    go_simp
    rfl
   simp only [Act.put, sxx]
  iterate 6
   refine ⟨_, undef, rfl, Or.inr ⟨by rfl, rfl⟩, ?_⟩
   simp only [Act.put, sxx]
  refine ⟨_, ?_, rfl, .inl ⟨by rfl, fun wq hSw => .value (w' := wq) ?_ hSw⟩, ?_⟩
  rotate_left
  ·obtain ⟨q0, q1⟩ := hSw
   obtain ⟨qc0, qf0⟩ := AJ q0
   go_simp
   rfl
  simp only [Act.put, sxx]
  intro wz hSz
  obtain ⟨_, q1⟩ := hSz
  go_wp2
  go_ret
  exact ⟨rfl, q1⟩
 ·skip
  have d1 : ((s.size : Int) == 0) = false := by rw [beq_eq_false_iff_ne]; omega
  have d1'' : (s.size == 0) = false := by rw [beq_eq_false_iff_ne]; omega
  have d0'' : decide (s.size = 0) = false := dF (by omega)
  have d2 : decide ((64 : Int) < (s.size : Int)) = false := dF (by omega)
  have d2' : decide (64 < s.size) = false := dF (by omega)
  clear hP
  go_enter func40, ntmps40
  go_wp2_with fail
  rw [← HW0.out]
  refine Uniform.Ak (S := (fun W => W.heap[w.heap.size]? = some (.cells #[.string s, .int .i64 h, .int .i64 nx] 40 (0, 0)) ∧ Below w.heap.size w W)) (List.range 29) (by kernel_rfl) (by kernel_rfl) ⟨HX0.out, (HB0.out).drew⟩ ?_
  iterate 13
   refine ⟨_, ?_, rfl, .inl ⟨by rfl, fun wq hSw => .value (w' := wq) ?_ hSw⟩, ?_⟩
   rotate_left
   ·obtain ⟨q0, q1⟩ := hSw
    obtain ⟨qc0, qf0⟩ := AJ q0
    go_simp
    rfl
   simp only [Act.put, sxx]
  refine ⟨_, ?_, rfl, Or.inl ⟨by rfl, fun wq hSw => Uniform.UStep.call (w' := wq) ?_ ((HH.out wq).mono ?_)⟩, ?_⟩
  rotate_left
  ·obtain ⟨q0, q1⟩ := hSw
   obtain ⟨qc0, qf0⟩ := AJ q0
   go_simp
   all_goals (and_intros <;> rfl)
  ·have hSk := hSw
   obtain ⟨q0, q1⟩ := hSw
   rintro e wq2 ⟨rfl, rfl⟩
   refine ⟨?_, hSk⟩
   rfl
  iterate 3
   simp only [Act.put, sxx]
   refine ⟨_, ?_, rfl, .inl ⟨by rfl, fun wq hSw => .value (w' := wq) ?_ hSw⟩, ?_⟩
   rotate_left
   ·obtain ⟨q0, q1⟩ := hSw
    obtain ⟨qc0, qf0⟩ := AJ q0
    go_simp
    rfl
  iterate 3
   simp only [Act.put, sxx]
   refine ⟨_, undef, rfl, Or.inr ⟨by rfl, rfl⟩, ?_⟩
  iterate 2
   simp only [Act.put, sxx]
   refine ⟨_, ?_, rfl, .inl ⟨by rfl, fun wq hSw => .value (w' := wq) ?_ hSw⟩, ?_⟩
   rotate_left
   ·obtain ⟨q0, q1⟩ := hSw
    obtain ⟨qc0, qf0⟩ := AJ q0
    go_simp
    rfl
  iterate 6
   simp only [Act.put, sxx]
   refine ⟨_, undef, rfl, Or.inr ⟨by rfl, rfl⟩, ?_⟩
  simp only [Act.put, sxx]
  refine ⟨_, ?_, rfl, .inl ⟨by rfl, fun wq hSw => .value (w' := wq) ?_ hSw⟩, ?_⟩
  rotate_left
  ·obtain ⟨q0, q1⟩ := hSw
   obtain ⟨qc0, qf0⟩ := AJ q0
   go_simp
   rfl
  simp only [Act.put, sxx]
  intro wz hSz
  obtain ⟨_, q1⟩ := hSz
  go_wp2
  go_ret
  exact ⟨rfl, q1⟩
 ·skip
  have d1 : ((s.size : Int) == 0) = false := by rw [beq_eq_false_iff_ne]; omega
  have d1'' : (s.size == 0) = false := by rw [beq_eq_false_iff_ne]; omega
  have d0'' : decide (s.size = 0) = false := dF (by omega)
  have d2 : decide ((64 : Int) < (s.size : Int)) = false := dF (by omega)
  have d2' : decide (64 < s.size) = false := dF (by omega)
  have d3 : decide (nx < 0) = true := dT (by omega)
  clear hP
  go_enter func40, ntmps40
  go_wp2_with fail
  rw [← HW0.out]
  refine Uniform.Ak (S := (fun W => W.heap[w.heap.size]? = some (.cells #[.string s, .int .i64 h, .int .i64 nx] 40 (0, 0)) ∧ Below w.heap.size w W)) (List.range 29) (by kernel_rfl) (by kernel_rfl) ⟨HX0.out, (HB0.out).drew⟩ ?_
  iterate 13
   refine ⟨_, ?_, rfl, .inl ⟨by rfl, fun wq hSw => .value (w' := wq) ?_ hSw⟩, ?_⟩
   rotate_left
   ·obtain ⟨q0, q1⟩ := hSw
    obtain ⟨qc0, qf0⟩ := AJ q0
    go_simp
    rfl
   simp only [Act.put, sxx]
  refine ⟨_, ?_, rfl, Or.inl ⟨by rfl, fun wq hSw => Uniform.UStep.call (w' := wq) ?_ ((HH.out wq).mono ?_)⟩, ?_⟩
  rotate_left
  ·obtain ⟨q0, q1⟩ := hSw
   obtain ⟨qc0, qf0⟩ := AJ q0
   go_simp
   all_goals (and_intros <;> rfl)
  ·have hSk := hSw
   obtain ⟨q0, q1⟩ := hSw
   rintro e wq2 ⟨rfl, rfl⟩
   refine ⟨?_, hSk⟩
   rfl
  iterate 8
   simp only [Act.put, sxx]
   refine ⟨_, ?_, rfl, .inl ⟨by rfl, fun wq hSw => .value (w' := wq) ?_ hSw⟩, ?_⟩
   rotate_left
   ·obtain ⟨q0, q1⟩ := hSw
    obtain ⟨qc0, qf0⟩ := AJ q0
    go_simp
    rfl
  iterate 6
   simp only [Act.put, sxx]
   refine ⟨_, undef, rfl, Or.inr ⟨by rfl, rfl⟩, ?_⟩
  simp only [Act.put, sxx]
  refine ⟨_, ?_, rfl, .inl ⟨by rfl, fun wq hSw => .value (w' := wq) ?_ hSw⟩, ?_⟩
  rotate_left
  ·obtain ⟨q0, q1⟩ := hSw
   obtain ⟨qc0, qf0⟩ := AJ q0
   go_simp
   rfl
  simp only [Act.put, sxx]
  intro wz hSz
  obtain ⟨_, q1⟩ := hSz
  go_wp2
  go_ret
  exact ⟨rfl, q1⟩
 ·skip
  have d1 : ((s.size : Int) == 0) = false := by rw [beq_eq_false_iff_ne]; omega
  have d1'' : (s.size == 0) = false := by rw [beq_eq_false_iff_ne]; omega
  have d0'' : decide (s.size = 0) = false := dF (by omega)
  have d2 : decide ((64 : Int) < (s.size : Int)) = false := dF (by omega)
  have d2' : decide (64 < s.size) = false := dF (by omega)
  have d3 : decide (nx < 0) = false := dF (by omega)
  have d4 : decide ((M : Int) < nx) = false := dF (by omega)
  obtain ⟨m, rfl, hm7, hp2, hM8⟩ := hP rfl
  clear hP
  go_enter func40, ntmps40
  go_wp2_with fail
  rw [← HW0.out]
  refine Uniform.Ak (S := (fun W => W.heap[w.heap.size]? = some (.cells #[.string s, .int .i64 (m : Int), .int .i64 nx] 40 (0, 0)) ∧ Below w.heap.size w W)) (List.range 29) (by kernel_rfl) (by kernel_rfl) ⟨HX0.out, (HB0.out).drew⟩ ?_
  iterate 13
   refine ⟨_, ?_, rfl, .inl ⟨by rfl, fun wq hSw => .value (w' := wq) ?_ hSw⟩, ?_⟩
   rotate_left
   ·obtain ⟨q0, q1⟩ := hSw
    obtain ⟨qc0, qf0⟩ := AJ q0
    go_simp
    rfl
   simp only [Act.put, sxx]
  refine ⟨_, ?_, rfl, Or.inl ⟨by rfl, fun wq hSw => Uniform.UStep.call (w' := wq) ?_ ((HH.out wq).mono ?_)⟩, ?_⟩
  rotate_left
  ·obtain ⟨q0, q1⟩ := hSw
   obtain ⟨qc0, qf0⟩ := AJ q0
   go_simp
   all_goals (and_intros <;> rfl)
  ·have hSk := hSw
   obtain ⟨q0, q1⟩ := hSw
   rintro e wq2 ⟨rfl, rfl⟩
   refine ⟨?_, hSk⟩
   rfl
  iterate 15
   simp only [Act.put, sxx]
   refine ⟨_, ?_, rfl, .inl ⟨by rfl, fun wq hSw => .value (w' := wq) ?_ hSw⟩, ?_⟩
   rotate_left
   ·obtain ⟨q0, q1⟩ := hSw
    obtain ⟨qc0, qf0⟩ := AJ q0
    go_simp
    rfl
  simp only [Act.put, sxx]
  intro wz hSz
  obtain ⟨_, q1⟩ := hSz
  go_wp2
  go_ret
  exact ⟨rfl, q1⟩
 ·skip
  have d1 : ((s.size : Int) == 0) = false := by rw [beq_eq_false_iff_ne]; omega
  have d1'' : (s.size == 0) = false := by rw [beq_eq_false_iff_ne]; omega
  have d0'' : decide (s.size = 0) = false := dF (by omega)
  have d2 : decide ((64 : Int) < (s.size : Int)) = false := dF (by omega)
  have d2' : decide (64 < s.size) = false := dF (by omega)
  have d3 : decide (nx < 0) = false := dF (by omega)
  have d4 : decide ((M : Int) < nx) = true := dT (by omega)
  obtain ⟨m, rfl, hm7, hp2, hM8⟩ := hP rfl
  clear hP
  go_enter func40, ntmps40
  go_wp2_with fail
  rw [← HW0.out]
  refine Uniform.Ak (S := (fun W => W.heap[w.heap.size]? = some (.cells #[.string s, .int .i64 (m : Int), .int .i64 nx] 40 (0, 0)) ∧ Below w.heap.size w W)) (List.range 29) (by kernel_rfl) (by kernel_rfl) ⟨HX0.out, (HB0.out).drew⟩ ?_
  iterate 13
   refine ⟨_, ?_, rfl, .inl ⟨by rfl, fun wq hSw => .value (w' := wq) ?_ hSw⟩, ?_⟩
   rotate_left
   ·obtain ⟨q0, q1⟩ := hSw
    obtain ⟨qc0, qf0⟩ := AJ q0
    go_simp
    rfl
   simp only [Act.put, sxx]
  refine ⟨_, ?_, rfl, Or.inl ⟨by rfl, fun wq hSw => Uniform.UStep.call (w' := wq) ?_ ((HH.out wq).mono ?_)⟩, ?_⟩
  rotate_left
  ·obtain ⟨q0, q1⟩ := hSw
   obtain ⟨qc0, qf0⟩ := AJ q0
   go_simp
   all_goals (and_intros <;> rfl)
  ·have hSk := hSw
   obtain ⟨q0, q1⟩ := hSw
   rintro e wq2 ⟨rfl, rfl⟩
   refine ⟨?_, hSk⟩
   rfl
  iterate 15
   simp only [Act.put, sxx]
   refine ⟨_, ?_, rfl, .inl ⟨by rfl, fun wq hSw => .value (w' := wq) ?_ hSw⟩, ?_⟩
   rotate_left
   ·obtain ⟨q0, q1⟩ := hSw
    obtain ⟨qc0, qf0⟩ := AJ q0
    go_simp
    rfl
  simp only [Act.put, sxx]
  intro wz hSz
  obtain ⟨_, q1⟩ := hSz
  go_wp2
  go_ret
  exact ⟨rfl, q1⟩
theorem Make_no (w : World) (s : ByteArray) (h nx : Int) (hs : s.size ≤ maxLen) (hq : keyB s.size h nx = false) : Calls Tryz.prog 15 #[.agg (kyA s h nx)] w (RB (.tuple #[.pointer none, .int .i64 2]) w) := by
 have hC := fun w => Check_any w s h nx hs
 rw [hq, if_neg (by simp)] at hC
 obtain ⟨K, hK⟩ := nXe (kyA s h nx)
 rw [← hK] at hC ⊢
 have HKS := lh (show (Tryz.prog.info? 40).map (·.size) = some K.size by rw [hK]; kernel_rfl)
 have HC := lh hC
 obtain ⟨w0, hw0⟩ := nXe (w.alloc (.cells K 40))
 have hb0 : Below w.heap.size w w0 := by rw [hw0]; exact bAx
 have HX0 := lh (show w0.heap[w.heap.size]? = some (.cells K 40 (0, 0)) by rw [hw0]; exact AL _ _)
 obtain ⟨HB0, HW0⟩ := l2h hb0 hw0
 clear hC hK hq hs hw0 hb0
 go_enter func15, ntmps15
 go_wp2_with (first | (rw [← HW0.out]; refine wpList_load_row rfl _ _ rfl w.heap.size rfl _ K (0, 0) _ HX0.out underlying40 rfl HKS.out ?_) | (refine wpList_load_row rfl _ _ rfl w.heap.size rfl _ K (0, 0) _ HX0.out underlying40 rfl HKS.out ?_) | fail)
 refine (HC.out w0).mono ?_
 rintro e w1 ⟨rfl, hb⟩
 have HB1 := tbB HB0 hb
 clear hb
 go_wp2_with fail
 go_ret2
 exact ⟨rfl, HB1.out⟩
theorem RingRoot_any (w : World) (R : Nat) (s : ByteArray) (h nx : Int) (v : Value) (x : H32) (hrow : w.heap[R]? = some (.cells (Bu s h nx v x) 71 (0, 0))) : Calls Tryz.prog 16 #[.pointer (some ⟨R, 0, none⟩)] w (RB (.agg x.A) w) := by
 obtain ⟨Rt, hRte⟩ := nXe (x.A)
 have HRtS := lh (show (Tryz.prog.info? 27).map (·.size) = some Rt.size by rw [hRte]; exact H32.info _)
 have HRtN := lh (show 32 = Rt.size by rw [hRte, H32.size])
 have HRtO := lh (show Rt.all (·.oneCell') = true by rw [hRte]; exact H32.one _)
 have hrl := AB hrow
 have Hc0 : ∀ (j : Nat) (u : Value), Rt.toList[j]? = some u → w.cell? ⟨R, 4 + j, none⟩ = some u := by intro j u hu; rw [AO hrow, Fu, ← hRte, ← hu]; simp
 obtain ⟨Z, hZ⟩ := nXe (CV.A)
 have HLIT : Hid (zq0 Z) := lh (by rw [hZ]; unfold zq0; kernel_rfl)
 have HZN : Hid (Z.size = 32) := lh (by rw [hZ]; kernel_rfl)
 rw [← hRte]
 obtain ⟨w1, hw1⟩ := nXe (w.alloc (.cells Z 27))
 have hb1 : Below w.heap.size w w1 := by rw [hw1]; exact (Below.refl _ w).alloc nR _
 have HZ1 := lh (show w1.heap[w.heap.size]? = some (.cells Z 27 (0, 0)) by rw [hw1]; exact AL _ _)
 have hr1 := (hb1.block _ hrl).trans hrow
 have Hcc := lh (show ∀ (j : Nat) (u : Value), Rt.toList[j]? = some u → w1.cell? ⟨R, 4 + j, none⟩ = some u by intro j u hu; rw [AO hr1, ← AO hrow]; exact Hc0 j u hu)
 obtain ⟨cr1, fr1⟩ := AJ hr1
 obtain ⟨HBL1, HW1⟩ := l2h hb1 hw1
 clear hw1 hb1 hr1 hrow Hc0 hRte hZ
 go_enter func16, ntmps16
 go_wp2_with (first | (rw [HLIT.out, ← HW1.out]; refine Af rfl _ _ rfl R 4 rfl Rt Hcc.out underlying27 rfl HRtS.out ?_) | (refine Af rfl _ _ rfl R 4 rfl Rt Hcc.out underlying27 rfl HRtS.out ?_) | (refine AC rfl _ _ _ rfl w.heap.size Rt rfl rfl _ _ HZ1.out HRtS.out (by rw [HZN.out]; exact HRtN.out) HRtO.out ?_) | fail)
 intro wf hwf
 go_wp2
 refine bodyPost_ret (v := .agg Rt) (results_cell_row rfl _ _ w.heap.size _ Rt (0, 0) _ rfl (by rw [hwf.out]; exact AR HZ1.out) underlying27 rfl HRtS.out) rfl ⟨rfl, by rw [hwf.out]; exact AQ HBL1.out nR _⟩
theorem Sign_over (w : World) (R : Nat) (s text : ByteArray) (h : Nat) (v : Value) (x : H32) (L : List Value) (hh : h ≤ 7) (hr : w.heap[R]? = some (.cells (Bu s h (2 ^ h : Nat) v x) 71 (0, 0))) (hv : Sl w v 32 (2 ^ h) L) :
 Calls Tryz.prog 17 #[.pointer (some ⟨R, 0, none⟩), .string text] w (RB (.tuple #[.string ⟨#[]⟩, .int .i64 10]) w) := by
 obtain ⟨a, cap, rfl, hcap, hm⟩ := hv.form
 obtain ⟨M, hM⟩ := nXe (2 ^ h)
 have hM128 : M ≤ 128 := by rw [hM]; exact Nat.le_trans (Nat.pow_le_pow_right (by omega) hh) (by omega)
 rw [← hM] at hr
 obtain ⟨g0, g1, g2, g3⟩ := GN s h (M : Int) (.slice a M cap) x
 have c2 : w.cell? ⟨R, 2, none⟩ = some (.int .i64 (M : Int)) := (AO hr).trans g2
 have c3 : w.cell? ⟨R, 3, none⟩ = some (.slice a M cap) := (AO hr).trans g3
 clear hr hv hcap hm g0 g1 g2 g3 hM
 go_enter func17, ntmps17
 go_wp2
 go_ret2
 exact ⟨rfl, Below.refl _ _⟩
end Go.Proofs.YtadofbbpfgmclaaGreatDoor.PkC
