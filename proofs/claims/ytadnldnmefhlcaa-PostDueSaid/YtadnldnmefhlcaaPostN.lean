/-
  WHAT IS PROVED: a box is made; whether a letter is due; the iterator of the letters is made. Condition: what each theorem names.
-/
import Derived.Test.YtadnldnmefhlcaaPostF
import Derived.Test.YtadnldnmefhlcaaCore
namespace Go.Proofs.Ytadnldnmefhlcaa.PostN
open Go Go.RowKit Go.Shelf Go.Conc Go.Proofs.Ytadnldnmefhlcaa Go.Proofs.Ytadnldnmefhlcaa.PostA Go.Proofs.Ytadnldnmefhlcaa.PostT Go.Proofs.Ytadnldnmefhlcaa.PostF
set_option linter.unusedVariables false
set_option linter.unusedSimpArgs false

/-- Whether a letter is due. -/
def dueB (gap now : Int) (x : Lt) : Bool := !x.sent || (decide (now < x.at') || decide (gap ≤ now - x.at'))
theorem letters_ok (w : World) (p : Nat) :
    Calls Try.prog 21 #[.pointer (some ⟨p, 0, none⟩)] w fun e w' => e = .returned (.func (.func 26) #[] #[.pointer (some ⟨w.heap.size, 0, none⟩)]) ∧ w.alloc (.cells #[.pointer (some ⟨p, 0, none⟩)] 24) = w' := by
  go_enter Try.func21, Try.ntmps21
  go_wp2
  go_ret
  exact ⟨rfl, rfl⟩

set_option maxRecDepth 100000 in
set_option maxHeartbeats 2000000 in
theorem due_ok (w : World) (p c : Nat) (gap last lost now : Int) (x : Lt) (hn0 : 0 ≤ now) (hn1 : now ≤ 1099511627776) (hr : x.sent = true → 0 ≤ x.at' ∧ x.at' ≤ 1099511627776) (hp : w.heap[p]? = some (.cells #[.chan (some c), .int .i64 gap, .int .i64 last, .int .i64 lost] 60 (0, 0))) :
    Calls Try.prog 22 #[.pointer (some ⟨p, 0, none⟩), x.v, .int .i64 now] w fun e w' => e = .returned (.bool (dueB gap now x)) ∧ Below w.heap.size w w' := by
  unfold Lt.v Lt.cs
  obtain ⟨id, to, text, at', sent⟩ := x
  simp only at hr ⊢
  have hlt := lt_row hp
  obtain ⟨w0, hw0⟩ : ∃ w0, w0 = w.alloc (.cells #[.int .i64 id, .int .i64 to, .string text, .int .i64 at', .bool sent] 64) := ⟨_, rfl⟩
  have hb0 : Below w.heap.size w w0 := by rw [hw0]; exact (Below.refl _ _).alloc (Nat.le_refl _) _
  have HX0 := Lib.hid (show w0.heap[w.heap.size]? = some (.cells #[.int .i64 id, .int .i64 to, .string text, .int .i64 at', .bool sent] 64 (0, 0)) by rw [hw0]; exact heap_new _ _)
  have HP0 := Lib.hid ((hb0.block _ hlt).trans hp)
  have HB0 := Lib.hid hb0
  have HW0 := Lib.hid hw0
  clear hw0 hb0 hp hlt
  have hc : sent = false ∨ (sent = true ∧ now < at') ∨ (sent = true ∧ ¬ now < at') := by
    cases sent
    · exact .inl rfl
    · by_cases h : now < at'
      · exact .inr (.inl ⟨rfl, h⟩)
      · exact .inr (.inr ⟨rfl, h⟩)
  rcases hc with rfl | ⟨rfl, h1⟩ | ⟨rfl, h1⟩
  · skip
    go_enter Try.func22, Try.ntmps22
    go_wp2_with fail
    rw [← HW0.out]
    refine Uniform.region_chain (S := (fun W => W.heap[w.heap.size]? = some (.cells #[.int .i64 id, .int .i64 to, .string text, .int .i64 at', .bool false] 64 (0, 0)) ∧ W.heap[p]? = some (.cells #[.chan (some c), .int .i64 gap, .int .i64 last, .int .i64 lost] 60 (0, 0)) ∧ Below w.heap.size w W)) (List.range 21) (by kernel_rfl) (by kernel_rfl) ⟨HX0.out, HP0.out, (HB0.out).drew⟩ ?_
    refine ⟨_, ?_, rfl, Or.inl ⟨by rfl, fun wq hSw => Uniform.UStep.value (w' := wq) ?_ hSw⟩, ?_⟩
    rotate_left
    · obtain ⟨q0, q1, q2⟩ := hSw
      obtain ⟨qc0, qf0⟩ := row_facts q0
      obtain ⟨qc1, qf1⟩ := row_facts q1
      go_simp
      rfl
    simp only [Act.put, List.getElem_toArray, List.getElem_cons_zero, List.getElem_cons_succ, List.setIfInBounds_toArray, List.set_cons_zero, List.set_cons_succ]
    refine ⟨_, ?_, rfl, Or.inl ⟨by rfl, fun wq hSw => Uniform.UStep.value (w' := wq) ?_ hSw⟩, ?_⟩
    rotate_left
    · obtain ⟨q0, q1, q2⟩ := hSw
      obtain ⟨qc0, qf0⟩ := row_facts q0
      obtain ⟨qc1, qf1⟩ := row_facts q1
      go_simp
      rfl
    simp only [Act.put, List.getElem_toArray, List.getElem_cons_zero, List.getElem_cons_succ, List.setIfInBounds_toArray, List.set_cons_zero, List.set_cons_succ]
    refine ⟨_, ?_, rfl, Or.inl ⟨by rfl, fun wq hSw => Uniform.UStep.value (w' := wq) ?_ hSw⟩, ?_⟩
    rotate_left
    · obtain ⟨q0, q1, q2⟩ := hSw
      obtain ⟨qc0, qf0⟩ := row_facts q0
      obtain ⟨qc1, qf1⟩ := row_facts q1
      go_simp
      rfl
    simp only [Act.put, List.getElem_toArray, List.getElem_cons_zero, List.getElem_cons_succ, List.setIfInBounds_toArray, List.set_cons_zero, List.set_cons_succ]
    refine ⟨_, ?_, rfl, Or.inl ⟨by rfl, fun wq hSw => Uniform.UStep.value (w' := wq) ?_ hSw⟩, ?_⟩
    rotate_left
    · obtain ⟨q0, q1, q2⟩ := hSw
      obtain ⟨qc0, qf0⟩ := row_facts q0
      obtain ⟨qc1, qf1⟩ := row_facts q1
      go_simp
      rfl
    simp only [Act.put, List.getElem_toArray, List.getElem_cons_zero, List.getElem_cons_succ, List.setIfInBounds_toArray, List.set_cons_zero, List.set_cons_succ]
    refine ⟨_, undef, rfl, Or.inr ⟨by rfl, rfl⟩, ?_⟩
    simp only [Act.put, List.getElem_toArray, List.getElem_cons_zero, List.getElem_cons_succ, List.setIfInBounds_toArray, List.set_cons_zero, List.set_cons_succ]
    refine ⟨_, undef, rfl, Or.inr ⟨by rfl, rfl⟩, ?_⟩
    simp only [Act.put, List.getElem_toArray, List.getElem_cons_zero, List.getElem_cons_succ, List.setIfInBounds_toArray, List.set_cons_zero, List.set_cons_succ]
    refine ⟨_, undef, rfl, Or.inr ⟨by rfl, rfl⟩, ?_⟩
    simp only [Act.put, List.getElem_toArray, List.getElem_cons_zero, List.getElem_cons_succ, List.setIfInBounds_toArray, List.set_cons_zero, List.set_cons_succ]
    refine ⟨_, undef, rfl, Or.inr ⟨by rfl, rfl⟩, ?_⟩
    simp only [Act.put, List.getElem_toArray, List.getElem_cons_zero, List.getElem_cons_succ, List.setIfInBounds_toArray, List.set_cons_zero, List.set_cons_succ]
    refine ⟨_, ?_, rfl, Or.inl ⟨by rfl, fun wq hSw => Uniform.UStep.value (w' := wq) ?_ hSw⟩, ?_⟩
    rotate_left
    · obtain ⟨q0, q1, q2⟩ := hSw
      obtain ⟨qc0, qf0⟩ := row_facts q0
      obtain ⟨qc1, qf1⟩ := row_facts q1
      go_simp
      rfl
    simp only [Act.put, List.getElem_toArray, List.getElem_cons_zero, List.getElem_cons_succ, List.setIfInBounds_toArray, List.set_cons_zero, List.set_cons_succ]
    refine ⟨_, ?_, rfl, Or.inl ⟨by rfl, fun wq hSw => Uniform.UStep.value (w' := wq) ?_ hSw⟩, ?_⟩
    rotate_left
    · obtain ⟨q0, q1, q2⟩ := hSw
      obtain ⟨qc0, qf0⟩ := row_facts q0
      obtain ⟨qc1, qf1⟩ := row_facts q1
      go_simp
      rfl
    simp only [Act.put, List.getElem_toArray, List.getElem_cons_zero, List.getElem_cons_succ, List.setIfInBounds_toArray, List.set_cons_zero, List.set_cons_succ]
    refine ⟨_, undef, rfl, Or.inr ⟨by rfl, rfl⟩, ?_⟩
    simp only [Act.put, List.getElem_toArray, List.getElem_cons_zero, List.getElem_cons_succ, List.setIfInBounds_toArray, List.set_cons_zero, List.set_cons_succ]
    refine ⟨_, undef, rfl, Or.inr ⟨by rfl, rfl⟩, ?_⟩
    simp only [Act.put, List.getElem_toArray, List.getElem_cons_zero, List.getElem_cons_succ, List.setIfInBounds_toArray, List.set_cons_zero, List.set_cons_succ]
    refine ⟨_, undef, rfl, Or.inr ⟨by rfl, rfl⟩, ?_⟩
    simp only [Act.put, List.getElem_toArray, List.getElem_cons_zero, List.getElem_cons_succ, List.setIfInBounds_toArray, List.set_cons_zero, List.set_cons_succ]
    refine ⟨_, undef, rfl, Or.inr ⟨by rfl, rfl⟩, ?_⟩
    simp only [Act.put, List.getElem_toArray, List.getElem_cons_zero, List.getElem_cons_succ, List.setIfInBounds_toArray, List.set_cons_zero, List.set_cons_succ]
    refine ⟨_, undef, rfl, Or.inr ⟨by rfl, rfl⟩, ?_⟩
    simp only [Act.put, List.getElem_toArray, List.getElem_cons_zero, List.getElem_cons_succ, List.setIfInBounds_toArray, List.set_cons_zero, List.set_cons_succ]
    refine ⟨_, undef, rfl, Or.inr ⟨by rfl, rfl⟩, ?_⟩
    simp only [Act.put, List.getElem_toArray, List.getElem_cons_zero, List.getElem_cons_succ, List.setIfInBounds_toArray, List.set_cons_zero, List.set_cons_succ]
    refine ⟨_, undef, rfl, Or.inr ⟨by rfl, rfl⟩, ?_⟩
    simp only [Act.put, List.getElem_toArray, List.getElem_cons_zero, List.getElem_cons_succ, List.setIfInBounds_toArray, List.set_cons_zero, List.set_cons_succ]
    refine ⟨_, undef, rfl, Or.inr ⟨by rfl, rfl⟩, ?_⟩
    simp only [Act.put, List.getElem_toArray, List.getElem_cons_zero, List.getElem_cons_succ, List.setIfInBounds_toArray, List.set_cons_zero, List.set_cons_succ]
    refine ⟨_, undef, rfl, Or.inr ⟨by rfl, rfl⟩, ?_⟩
    simp only [Act.put, List.getElem_toArray, List.getElem_cons_zero, List.getElem_cons_succ, List.setIfInBounds_toArray, List.set_cons_zero, List.set_cons_succ]
    refine ⟨_, ?_, rfl, Or.inl ⟨by rfl, fun wq hSw => Uniform.UStep.value (w' := wq) ?_ hSw⟩, ?_⟩
    rotate_left
    · obtain ⟨q0, q1, q2⟩ := hSw
      obtain ⟨qc0, qf0⟩ := row_facts q0
      obtain ⟨qc1, qf1⟩ := row_facts q1
      go_simp
      rfl
    simp only [Act.put, List.getElem_toArray, List.getElem_cons_zero, List.getElem_cons_succ, List.setIfInBounds_toArray, List.set_cons_zero, List.set_cons_succ]
    refine ⟨_, ?_, rfl, Or.inl ⟨by rfl, fun wq hSw => Uniform.UStep.value (w' := wq) ?_ hSw⟩, ?_⟩
    rotate_left
    · obtain ⟨q0, q1, q2⟩ := hSw
      obtain ⟨qc0, qf0⟩ := row_facts q0
      obtain ⟨qc1, qf1⟩ := row_facts q1
      go_simp
      rfl
    simp only [Act.put, List.getElem_toArray, List.getElem_cons_zero, List.getElem_cons_succ, List.setIfInBounds_toArray, List.set_cons_zero, List.set_cons_succ]
    intro wz hSz
    obtain ⟨_, _, q2⟩ := hSz
    go_wp2
    go_ret
    exact ⟨by unfold dueB; simp, q2⟩
  · skip
    have d1 : decide (now < at') = true := decide_eq_true h1
    go_enter Try.func22, Try.ntmps22
    go_wp2_with fail
    rw [← HW0.out]
    refine Uniform.region_chain (S := (fun W => W.heap[w.heap.size]? = some (.cells #[.int .i64 id, .int .i64 to, .string text, .int .i64 at', .bool true] 64 (0, 0)) ∧ W.heap[p]? = some (.cells #[.chan (some c), .int .i64 gap, .int .i64 last, .int .i64 lost] 60 (0, 0)) ∧ Below w.heap.size w W)) (List.range 21) (by kernel_rfl) (by kernel_rfl) ⟨HX0.out, HP0.out, (HB0.out).drew⟩ ?_
    refine ⟨_, ?_, rfl, Or.inl ⟨by rfl, fun wq hSw => Uniform.UStep.value (w' := wq) ?_ hSw⟩, ?_⟩
    rotate_left
    · obtain ⟨q0, q1, q2⟩ := hSw
      obtain ⟨qc0, qf0⟩ := row_facts q0
      obtain ⟨qc1, qf1⟩ := row_facts q1
      go_simp
      rfl
    simp only [Act.put, List.getElem_toArray, List.getElem_cons_zero, List.getElem_cons_succ, List.setIfInBounds_toArray, List.set_cons_zero, List.set_cons_succ]
    refine ⟨_, ?_, rfl, Or.inl ⟨by rfl, fun wq hSw => Uniform.UStep.value (w' := wq) ?_ hSw⟩, ?_⟩
    rotate_left
    · obtain ⟨q0, q1, q2⟩ := hSw
      obtain ⟨qc0, qf0⟩ := row_facts q0
      obtain ⟨qc1, qf1⟩ := row_facts q1
      go_simp
      rfl
    simp only [Act.put, List.getElem_toArray, List.getElem_cons_zero, List.getElem_cons_succ, List.setIfInBounds_toArray, List.set_cons_zero, List.set_cons_succ]
    refine ⟨_, ?_, rfl, Or.inl ⟨by rfl, fun wq hSw => Uniform.UStep.value (w' := wq) ?_ hSw⟩, ?_⟩
    rotate_left
    · obtain ⟨q0, q1, q2⟩ := hSw
      obtain ⟨qc0, qf0⟩ := row_facts q0
      obtain ⟨qc1, qf1⟩ := row_facts q1
      go_simp
      rfl
    simp only [Act.put, List.getElem_toArray, List.getElem_cons_zero, List.getElem_cons_succ, List.setIfInBounds_toArray, List.set_cons_zero, List.set_cons_succ]
    refine ⟨_, ?_, rfl, Or.inl ⟨by rfl, fun wq hSw => Uniform.UStep.value (w' := wq) ?_ hSw⟩, ?_⟩
    rotate_left
    · obtain ⟨q0, q1, q2⟩ := hSw
      obtain ⟨qc0, qf0⟩ := row_facts q0
      obtain ⟨qc1, qf1⟩ := row_facts q1
      go_simp
      rfl
    simp only [Act.put, List.getElem_toArray, List.getElem_cons_zero, List.getElem_cons_succ, List.setIfInBounds_toArray, List.set_cons_zero, List.set_cons_succ]
    refine ⟨_, ?_, rfl, Or.inl ⟨by rfl, fun wq hSw => Uniform.UStep.value (w' := wq) ?_ hSw⟩, ?_⟩
    rotate_left
    · obtain ⟨q0, q1, q2⟩ := hSw
      obtain ⟨qc0, qf0⟩ := row_facts q0
      obtain ⟨qc1, qf1⟩ := row_facts q1
      go_simp
      rfl
    simp only [Act.put, List.getElem_toArray, List.getElem_cons_zero, List.getElem_cons_succ, List.setIfInBounds_toArray, List.set_cons_zero, List.set_cons_succ]
    refine ⟨_, ?_, rfl, Or.inl ⟨by rfl, fun wq hSw => Uniform.UStep.value (w' := wq) ?_ hSw⟩, ?_⟩
    rotate_left
    · obtain ⟨q0, q1, q2⟩ := hSw
      obtain ⟨qc0, qf0⟩ := row_facts q0
      obtain ⟨qc1, qf1⟩ := row_facts q1
      go_simp
      rfl
    simp only [Act.put, List.getElem_toArray, List.getElem_cons_zero, List.getElem_cons_succ, List.setIfInBounds_toArray, List.set_cons_zero, List.set_cons_succ]
    refine ⟨_, ?_, rfl, Or.inl ⟨by rfl, fun wq hSw => Uniform.UStep.value (w' := wq) ?_ hSw⟩, ?_⟩
    rotate_left
    · obtain ⟨q0, q1, q2⟩ := hSw
      obtain ⟨qc0, qf0⟩ := row_facts q0
      obtain ⟨qc1, qf1⟩ := row_facts q1
      go_simp
      rfl
    simp only [Act.put, List.getElem_toArray, List.getElem_cons_zero, List.getElem_cons_succ, List.setIfInBounds_toArray, List.set_cons_zero, List.set_cons_succ]
    refine ⟨_, ?_, rfl, Or.inl ⟨by rfl, fun wq hSw => Uniform.UStep.value (w' := wq) ?_ hSw⟩, ?_⟩
    rotate_left
    · obtain ⟨q0, q1, q2⟩ := hSw
      obtain ⟨qc0, qf0⟩ := row_facts q0
      obtain ⟨qc1, qf1⟩ := row_facts q1
      go_simp
      rfl
    simp only [Act.put, List.getElem_toArray, List.getElem_cons_zero, List.getElem_cons_succ, List.setIfInBounds_toArray, List.set_cons_zero, List.set_cons_succ]
    refine ⟨_, ?_, rfl, Or.inl ⟨by rfl, fun wq hSw => Uniform.UStep.value (w' := wq) ?_ hSw⟩, ?_⟩
    rotate_left
    · obtain ⟨q0, q1, q2⟩ := hSw
      obtain ⟨qc0, qf0⟩ := row_facts q0
      obtain ⟨qc1, qf1⟩ := row_facts q1
      go_simp
      rfl
    simp only [Act.put, List.getElem_toArray, List.getElem_cons_zero, List.getElem_cons_succ, List.setIfInBounds_toArray, List.set_cons_zero, List.set_cons_succ]
    refine ⟨_, ?_, rfl, Or.inl ⟨by rfl, fun wq hSw => Uniform.UStep.value (w' := wq) ?_ hSw⟩, ?_⟩
    rotate_left
    · obtain ⟨q0, q1, q2⟩ := hSw
      obtain ⟨qc0, qf0⟩ := row_facts q0
      obtain ⟨qc1, qf1⟩ := row_facts q1
      go_simp
      rfl
    simp only [Act.put, List.getElem_toArray, List.getElem_cons_zero, List.getElem_cons_succ, List.setIfInBounds_toArray, List.set_cons_zero, List.set_cons_succ]
    refine ⟨_, undef, rfl, Or.inr ⟨by rfl, rfl⟩, ?_⟩
    simp only [Act.put, List.getElem_toArray, List.getElem_cons_zero, List.getElem_cons_succ, List.setIfInBounds_toArray, List.set_cons_zero, List.set_cons_succ]
    refine ⟨_, undef, rfl, Or.inr ⟨by rfl, rfl⟩, ?_⟩
    simp only [Act.put, List.getElem_toArray, List.getElem_cons_zero, List.getElem_cons_succ, List.setIfInBounds_toArray, List.set_cons_zero, List.set_cons_succ]
    refine ⟨_, undef, rfl, Or.inr ⟨by rfl, rfl⟩, ?_⟩
    simp only [Act.put, List.getElem_toArray, List.getElem_cons_zero, List.getElem_cons_succ, List.setIfInBounds_toArray, List.set_cons_zero, List.set_cons_succ]
    refine ⟨_, undef, rfl, Or.inr ⟨by rfl, rfl⟩, ?_⟩
    simp only [Act.put, List.getElem_toArray, List.getElem_cons_zero, List.getElem_cons_succ, List.setIfInBounds_toArray, List.set_cons_zero, List.set_cons_succ]
    refine ⟨_, undef, rfl, Or.inr ⟨by rfl, rfl⟩, ?_⟩
    simp only [Act.put, List.getElem_toArray, List.getElem_cons_zero, List.getElem_cons_succ, List.setIfInBounds_toArray, List.set_cons_zero, List.set_cons_succ]
    refine ⟨_, undef, rfl, Or.inr ⟨by rfl, rfl⟩, ?_⟩
    simp only [Act.put, List.getElem_toArray, List.getElem_cons_zero, List.getElem_cons_succ, List.setIfInBounds_toArray, List.set_cons_zero, List.set_cons_succ]
    refine ⟨_, undef, rfl, Or.inr ⟨by rfl, rfl⟩, ?_⟩
    simp only [Act.put, List.getElem_toArray, List.getElem_cons_zero, List.getElem_cons_succ, List.setIfInBounds_toArray, List.set_cons_zero, List.set_cons_succ]
    refine ⟨_, undef, rfl, Or.inr ⟨by rfl, rfl⟩, ?_⟩
    simp only [Act.put, List.getElem_toArray, List.getElem_cons_zero, List.getElem_cons_succ, List.setIfInBounds_toArray, List.set_cons_zero, List.set_cons_succ]
    refine ⟨_, undef, rfl, Or.inr ⟨by rfl, rfl⟩, ?_⟩
    simp only [Act.put, List.getElem_toArray, List.getElem_cons_zero, List.getElem_cons_succ, List.setIfInBounds_toArray, List.set_cons_zero, List.set_cons_succ]
    refine ⟨_, ?_, rfl, Or.inl ⟨by rfl, fun wq hSw => Uniform.UStep.value (w' := wq) ?_ hSw⟩, ?_⟩
    rotate_left
    · obtain ⟨q0, q1, q2⟩ := hSw
      obtain ⟨qc0, qf0⟩ := row_facts q0
      obtain ⟨qc1, qf1⟩ := row_facts q1
      go_simp
      rfl
    simp only [Act.put, List.getElem_toArray, List.getElem_cons_zero, List.getElem_cons_succ, List.setIfInBounds_toArray, List.set_cons_zero, List.set_cons_succ]
    refine ⟨_, ?_, rfl, Or.inl ⟨by rfl, fun wq hSw => Uniform.UStep.value (w' := wq) ?_ hSw⟩, ?_⟩
    rotate_left
    · obtain ⟨q0, q1, q2⟩ := hSw
      obtain ⟨qc0, qf0⟩ := row_facts q0
      obtain ⟨qc1, qf1⟩ := row_facts q1
      go_simp
      rfl
    simp only [Act.put, List.getElem_toArray, List.getElem_cons_zero, List.getElem_cons_succ, List.setIfInBounds_toArray, List.set_cons_zero, List.set_cons_succ]
    intro wz hSz
    obtain ⟨_, _, q2⟩ := hSz
    go_wp2
    go_ret
    exact ⟨by unfold dueB; simp [d1], q2⟩
  · skip
    have d1 : decide (now < at') = false := decide_eq_false h1
    obtain ⟨hr0, hr1⟩ := hr rfl
    have hwr : IntKind.i64.wrap (now - at') = now - at' := IntWalk.i64_in _ (by omega)
    go_enter Try.func22, Try.ntmps22
    go_wp2_with fail
    rw [← HW0.out]
    refine Uniform.region_chain (S := (fun W => W.heap[w.heap.size]? = some (.cells #[.int .i64 id, .int .i64 to, .string text, .int .i64 at', .bool true] 64 (0, 0)) ∧ W.heap[p]? = some (.cells #[.chan (some c), .int .i64 gap, .int .i64 last, .int .i64 lost] 60 (0, 0)) ∧ Below w.heap.size w W)) (List.range 21) (by kernel_rfl) (by kernel_rfl) ⟨HX0.out, HP0.out, (HB0.out).drew⟩ ?_
    refine ⟨_, ?_, rfl, Or.inl ⟨by rfl, fun wq hSw => Uniform.UStep.value (w' := wq) ?_ hSw⟩, ?_⟩
    rotate_left
    · obtain ⟨q0, q1, q2⟩ := hSw
      obtain ⟨qc0, qf0⟩ := row_facts q0
      obtain ⟨qc1, qf1⟩ := row_facts q1
      go_simp
      rfl
    simp only [Act.put, List.getElem_toArray, List.getElem_cons_zero, List.getElem_cons_succ, List.setIfInBounds_toArray, List.set_cons_zero, List.set_cons_succ]
    refine ⟨_, ?_, rfl, Or.inl ⟨by rfl, fun wq hSw => Uniform.UStep.value (w' := wq) ?_ hSw⟩, ?_⟩
    rotate_left
    · obtain ⟨q0, q1, q2⟩ := hSw
      obtain ⟨qc0, qf0⟩ := row_facts q0
      obtain ⟨qc1, qf1⟩ := row_facts q1
      go_simp
      rfl
    simp only [Act.put, List.getElem_toArray, List.getElem_cons_zero, List.getElem_cons_succ, List.setIfInBounds_toArray, List.set_cons_zero, List.set_cons_succ]
    refine ⟨_, ?_, rfl, Or.inl ⟨by rfl, fun wq hSw => Uniform.UStep.value (w' := wq) ?_ hSw⟩, ?_⟩
    rotate_left
    · obtain ⟨q0, q1, q2⟩ := hSw
      obtain ⟨qc0, qf0⟩ := row_facts q0
      obtain ⟨qc1, qf1⟩ := row_facts q1
      go_simp
      rfl
    simp only [Act.put, List.getElem_toArray, List.getElem_cons_zero, List.getElem_cons_succ, List.setIfInBounds_toArray, List.set_cons_zero, List.set_cons_succ]
    refine ⟨_, ?_, rfl, Or.inl ⟨by rfl, fun wq hSw => Uniform.UStep.value (w' := wq) ?_ hSw⟩, ?_⟩
    rotate_left
    · obtain ⟨q0, q1, q2⟩ := hSw
      obtain ⟨qc0, qf0⟩ := row_facts q0
      obtain ⟨qc1, qf1⟩ := row_facts q1
      go_simp
      rfl
    simp only [Act.put, List.getElem_toArray, List.getElem_cons_zero, List.getElem_cons_succ, List.setIfInBounds_toArray, List.set_cons_zero, List.set_cons_succ]
    refine ⟨_, ?_, rfl, Or.inl ⟨by rfl, fun wq hSw => Uniform.UStep.value (w' := wq) ?_ hSw⟩, ?_⟩
    rotate_left
    · obtain ⟨q0, q1, q2⟩ := hSw
      obtain ⟨qc0, qf0⟩ := row_facts q0
      obtain ⟨qc1, qf1⟩ := row_facts q1
      go_simp
      rfl
    simp only [Act.put, List.getElem_toArray, List.getElem_cons_zero, List.getElem_cons_succ, List.setIfInBounds_toArray, List.set_cons_zero, List.set_cons_succ]
    refine ⟨_, ?_, rfl, Or.inl ⟨by rfl, fun wq hSw => Uniform.UStep.value (w' := wq) ?_ hSw⟩, ?_⟩
    rotate_left
    · obtain ⟨q0, q1, q2⟩ := hSw
      obtain ⟨qc0, qf0⟩ := row_facts q0
      obtain ⟨qc1, qf1⟩ := row_facts q1
      go_simp
      rfl
    simp only [Act.put, List.getElem_toArray, List.getElem_cons_zero, List.getElem_cons_succ, List.setIfInBounds_toArray, List.set_cons_zero, List.set_cons_succ]
    refine ⟨_, ?_, rfl, Or.inl ⟨by rfl, fun wq hSw => Uniform.UStep.value (w' := wq) ?_ hSw⟩, ?_⟩
    rotate_left
    · obtain ⟨q0, q1, q2⟩ := hSw
      obtain ⟨qc0, qf0⟩ := row_facts q0
      obtain ⟨qc1, qf1⟩ := row_facts q1
      go_simp
      rfl
    simp only [Act.put, List.getElem_toArray, List.getElem_cons_zero, List.getElem_cons_succ, List.setIfInBounds_toArray, List.set_cons_zero, List.set_cons_succ]
    refine ⟨_, ?_, rfl, Or.inl ⟨by rfl, fun wq hSw => Uniform.UStep.value (w' := wq) ?_ hSw⟩, ?_⟩
    rotate_left
    · obtain ⟨q0, q1, q2⟩ := hSw
      obtain ⟨qc0, qf0⟩ := row_facts q0
      obtain ⟨qc1, qf1⟩ := row_facts q1
      go_simp
      rfl
    simp only [Act.put, List.getElem_toArray, List.getElem_cons_zero, List.getElem_cons_succ, List.setIfInBounds_toArray, List.set_cons_zero, List.set_cons_succ]
    refine ⟨_, ?_, rfl, Or.inl ⟨by rfl, fun wq hSw => Uniform.UStep.value (w' := wq) ?_ hSw⟩, ?_⟩
    rotate_left
    · obtain ⟨q0, q1, q2⟩ := hSw
      obtain ⟨qc0, qf0⟩ := row_facts q0
      obtain ⟨qc1, qf1⟩ := row_facts q1
      go_simp
      rfl
    simp only [Act.put, List.getElem_toArray, List.getElem_cons_zero, List.getElem_cons_succ, List.setIfInBounds_toArray, List.set_cons_zero, List.set_cons_succ]
    refine ⟨_, ?_, rfl, Or.inl ⟨by rfl, fun wq hSw => Uniform.UStep.value (w' := wq) ?_ hSw⟩, ?_⟩
    rotate_left
    · obtain ⟨q0, q1, q2⟩ := hSw
      obtain ⟨qc0, qf0⟩ := row_facts q0
      obtain ⟨qc1, qf1⟩ := row_facts q1
      go_simp
      rfl
    simp only [Act.put, List.getElem_toArray, List.getElem_cons_zero, List.getElem_cons_succ, List.setIfInBounds_toArray, List.set_cons_zero, List.set_cons_succ]
    refine ⟨_, ?_, rfl, Or.inl ⟨by rfl, fun wq hSw => Uniform.UStep.value (w' := wq) ?_ hSw⟩, ?_⟩
    rotate_left
    · obtain ⟨q0, q1, q2⟩ := hSw
      obtain ⟨qc0, qf0⟩ := row_facts q0
      obtain ⟨qc1, qf1⟩ := row_facts q1
      go_simp
      rfl
    simp only [Act.put, List.getElem_toArray, List.getElem_cons_zero, List.getElem_cons_succ, List.setIfInBounds_toArray, List.set_cons_zero, List.set_cons_succ]
    refine ⟨_, ?_, rfl, Or.inl ⟨by rfl, fun wq hSw => Uniform.UStep.value (w' := wq) ?_ hSw⟩, ?_⟩
    rotate_left
    · obtain ⟨q0, q1, q2⟩ := hSw
      obtain ⟨qc0, qf0⟩ := row_facts q0
      obtain ⟨qc1, qf1⟩ := row_facts q1
      go_simp
      rfl
    simp only [Act.put, List.getElem_toArray, List.getElem_cons_zero, List.getElem_cons_succ, List.setIfInBounds_toArray, List.set_cons_zero, List.set_cons_succ]
    refine ⟨_, ?_, rfl, Or.inl ⟨by rfl, fun wq hSw => Uniform.UStep.value (w' := wq) ?_ hSw⟩, ?_⟩
    rotate_left
    · obtain ⟨q0, q1, q2⟩ := hSw
      obtain ⟨qc0, qf0⟩ := row_facts q0
      obtain ⟨qc1, qf1⟩ := row_facts q1
      go_simp
      rfl
    simp only [Act.put, List.getElem_toArray, List.getElem_cons_zero, List.getElem_cons_succ, List.setIfInBounds_toArray, List.set_cons_zero, List.set_cons_succ]
    refine ⟨_, ?_, rfl, Or.inl ⟨by rfl, fun wq hSw => Uniform.UStep.value (w' := wq) ?_ hSw⟩, ?_⟩
    rotate_left
    · obtain ⟨q0, q1, q2⟩ := hSw
      obtain ⟨qc0, qf0⟩ := row_facts q0
      obtain ⟨qc1, qf1⟩ := row_facts q1
      go_simp
      rfl
    simp only [Act.put, List.getElem_toArray, List.getElem_cons_zero, List.getElem_cons_succ, List.setIfInBounds_toArray, List.set_cons_zero, List.set_cons_succ]
    refine ⟨_, ?_, rfl, Or.inl ⟨by rfl, fun wq hSw => Uniform.UStep.value (w' := wq) ?_ hSw⟩, ?_⟩
    rotate_left
    · obtain ⟨q0, q1, q2⟩ := hSw
      obtain ⟨qc0, qf0⟩ := row_facts q0
      obtain ⟨qc1, qf1⟩ := row_facts q1
      go_simp
      rfl
    simp only [Act.put, List.getElem_toArray, List.getElem_cons_zero, List.getElem_cons_succ, List.setIfInBounds_toArray, List.set_cons_zero, List.set_cons_succ]
    refine ⟨_, ?_, rfl, Or.inl ⟨by rfl, fun wq hSw => Uniform.UStep.value (w' := wq) ?_ hSw⟩, ?_⟩
    rotate_left
    · obtain ⟨q0, q1, q2⟩ := hSw
      obtain ⟨qc0, qf0⟩ := row_facts q0
      obtain ⟨qc1, qf1⟩ := row_facts q1
      go_simp
      rfl
    simp only [Act.put, List.getElem_toArray, List.getElem_cons_zero, List.getElem_cons_succ, List.setIfInBounds_toArray, List.set_cons_zero, List.set_cons_succ]
    refine ⟨_, ?_, rfl, Or.inl ⟨by rfl, fun wq hSw => Uniform.UStep.value (w' := wq) ?_ hSw⟩, ?_⟩
    rotate_left
    · obtain ⟨q0, q1, q2⟩ := hSw
      obtain ⟨qc0, qf0⟩ := row_facts q0
      obtain ⟨qc1, qf1⟩ := row_facts q1
      go_simp
      rfl
    simp only [Act.put, List.getElem_toArray, List.getElem_cons_zero, List.getElem_cons_succ, List.setIfInBounds_toArray, List.set_cons_zero, List.set_cons_succ]
    refine ⟨_, ?_, rfl, Or.inl ⟨by rfl, fun wq hSw => Uniform.UStep.value (w' := wq) ?_ hSw⟩, ?_⟩
    rotate_left
    · obtain ⟨q0, q1, q2⟩ := hSw
      obtain ⟨qc0, qf0⟩ := row_facts q0
      obtain ⟨qc1, qf1⟩ := row_facts q1
      go_simp
      rfl
    simp only [Act.put, List.getElem_toArray, List.getElem_cons_zero, List.getElem_cons_succ, List.setIfInBounds_toArray, List.set_cons_zero, List.set_cons_succ]
    refine ⟨_, ?_, rfl, Or.inl ⟨by rfl, fun wq hSw => Uniform.UStep.value (w' := wq) ?_ hSw⟩, ?_⟩
    rotate_left
    · obtain ⟨q0, q1, q2⟩ := hSw
      obtain ⟨qc0, qf0⟩ := row_facts q0
      obtain ⟨qc1, qf1⟩ := row_facts q1
      go_simp
      rfl
    simp only [Act.put, List.getElem_toArray, List.getElem_cons_zero, List.getElem_cons_succ, List.setIfInBounds_toArray, List.set_cons_zero, List.set_cons_succ]
    refine ⟨_, ?_, rfl, Or.inl ⟨by rfl, fun wq hSw => Uniform.UStep.value (w' := wq) ?_ hSw⟩, ?_⟩
    rotate_left
    · obtain ⟨q0, q1, q2⟩ := hSw
      obtain ⟨qc0, qf0⟩ := row_facts q0
      obtain ⟨qc1, qf1⟩ := row_facts q1
      go_simp
      rfl
    simp only [Act.put, List.getElem_toArray, List.getElem_cons_zero, List.getElem_cons_succ, List.setIfInBounds_toArray, List.set_cons_zero, List.set_cons_succ]
    refine ⟨_, ?_, rfl, Or.inl ⟨by rfl, fun wq hSw => Uniform.UStep.value (w' := wq) ?_ hSw⟩, ?_⟩
    rotate_left
    · obtain ⟨q0, q1, q2⟩ := hSw
      obtain ⟨qc0, qf0⟩ := row_facts q0
      obtain ⟨qc1, qf1⟩ := row_facts q1
      go_simp
      rfl
    simp only [Act.put, List.getElem_toArray, List.getElem_cons_zero, List.getElem_cons_succ, List.setIfInBounds_toArray, List.set_cons_zero, List.set_cons_succ]
    intro wz hSz
    obtain ⟨_, _, q2⟩ := hSz
    go_wp2
    go_ret
    exact ⟨by unfold dueB; simp [d1], q2⟩

end Go.Proofs.Ytadnldnmefhlcaa.PostN
