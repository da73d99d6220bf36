/-
  WHAT IS PROVED: a box is made; whether a letter is due; the iterator of the letters is made. Condition: what each theorem names.
-/
import Derived.Test.YtadnldnmefhlcaaPostF
import Derived.Test.YtadnldnmefhlcaaCore
import Derived.Conc.SmallLaws
namespace Go.Proofs.Ytadnldnmefhlcaa.PostNe
open Go Go.RowKit Go.Shelf Go.Conc Go.Proofs.Ytadnldnmefhlcaa Go.Proofs.Ytadnldnmefhlcaa.PostA Go.Proofs.Ytadnldnmefhlcaa.PostT Go.Proofs.Ytadnldnmefhlcaa.PostF
set_option linter.unusedVariables false
set_option linter.unusedSimpArgs false

/-- Whether a letter is due. -/
def dueB' (gap now : Int) (x : Lt) : Bool := !x.sent || (decide (now < x.at') || decide (gap ≤ now - x.at'))
theorem letters_ok' (w : World) (p : Nat) :
    Calls Try.prog 21 #[.pointer (some ⟨p, 0, none⟩)] w fun e w' => e = .returned (.func (.func 26) #[] #[.pointer (some ⟨w.heap.size, 0, none⟩)]) ∧ w.alloc (.cells #[.pointer (some ⟨p, 0, none⟩)] 24) = w' := by
  go_enter Try.func21, Try.ntmps21
  go_wp2
  go_ret
  exact ⟨rfl, rfl⟩

def newB (room gap : Int) : Bool := decide (1 ≤ room) && (decide (room ≤ 256) && (decide (1 ≤ gap) && decide (gap ≤ 1099511627776)))
set_option maxRecDepth 100000 in
set_option maxHeartbeats 2000000 in
theorem New_yes (w : World) (room : Nat) (gap : Int) (h1 : 1 ≤ room) (h2 : room ≤ 256) (h3 : 1 ≤ gap) (h4 : gap ≤ 1099511627776) :
    Calls Try.prog 6 #[.int .i64 room, .int .i64 gap] w fun e w' => e = .returned (.tuple #[.pointer (some ⟨w.heap.size + 1, 0, none⟩), .int .i64 0]) ∧ PostAt w' (w.heap.size + 1) w.heap.size room gap [] 0 0 ∧ Below w.heap.size w w' := by
  have ht : timeB gap = true := by unfold timeB; simp; omega
  have hT := fun w => time_ok w gap
  rw [ht] at hT
  have HT := Lib.hid hT
  have d1 : decide ((room : Int) < 1) = false := decide_eq_false (by omega)
  have d2 : decide ((256 : Int) < (room : Int)) = false := decide_eq_false (by omega)
  have d3 : decide (gap < 1) = false := decide_eq_false (by omega)
  have d4 : decide (room < 1) = false := decide_eq_false (by omega)
  have d5 : decide (256 < room) = false := decide_eq_false (by omega)
  have d6 : (room == 0) = false := by rw [beq_eq_false_iff_ne]; omega
  have d7 : ¬ room = 0 := by omega
  have d8 : ¬ (256 < room) := by omega
  obtain ⟨ti, hti, htb⟩ := Option.map_eq_some_iff.1 (show (Try.prog.info? 64).map (·.bytes) = some 48 by kernel_rfl)
  have hmk := fun w => run_makeChan (P := Try.prog) (w := w) Try.underlying56 hti .i64 room (by omega) (by rw [htb]; omega)
  clear hti htb
  clear hT ht
  go_enter Try.func6, Try.ntmps6
  go_wp2_with fail
  refine (HT.out w).mono ?_
  rintro e w' ⟨rfl, rfl⟩
  go_wp2
  go_ret2
  refine ⟨rfl, ⟨?_, ⟨by simp, 0, 0, ?_⟩, h2⟩, ?_⟩
  · exact heap_new' _ (by simp)
  · exact heap_at (heap_new _ _) _
  · exact ((Below.refl _ w).alloc (Nat.le_refl _) _).alloc (by simp) _

set_option maxRecDepth 100000 in
set_option maxHeartbeats 2000000 in
theorem New_no (w : World) (room gap : Int) (h : newB room gap = false) :
    Calls Try.prog 6 #[.int .i64 room, .int .i64 gap] w fun e w' => e = .returned (.tuple #[.pointer none, .int .i64 1]) ∧ w = w' := by
  have hc : room < 1 ∨ (1 ≤ room ∧ 256 < room) ∨ (1 ≤ room ∧ room ≤ 256 ∧ gap < 1) ∨ (1 ≤ room ∧ room ≤ 256 ∧ 1 ≤ gap ∧ 1099511627776 < gap) := by
    unfold newB at h
    simp at h
    omega
  have hT := fun w => time_ok w gap
  have HT := Lib.hid hT
  clear hT h
  rcases hc with h1 | ⟨h1, h2⟩ | ⟨h1, h2, h3⟩ | ⟨h1, h2, h3, h4⟩
  · have d1 : decide (room < 1) = true := decide_eq_true h1
    go_enter Try.func6, Try.ntmps6
    go_wp2
    go_ret2
    exact ⟨rfl, rfl⟩
  · have d1 : decide (room < 1) = false := decide_eq_false (by omega)
    have d2 : decide (256 < room) = true := decide_eq_true h2
    go_enter Try.func6, Try.ntmps6
    go_wp2
    go_ret2
    exact ⟨rfl, rfl⟩
  · have d1 : decide (room < 1) = false := decide_eq_false (by omega)
    have d2 : decide (256 < room) = false := decide_eq_false (by omega)
    have d3 : decide (gap < 1) = true := decide_eq_true h3
    go_enter Try.func6, Try.ntmps6
    go_wp2
    go_ret2
    exact ⟨rfl, rfl⟩
  · have d1 : decide (room < 1) = false := decide_eq_false (by omega)
    have d2 : decide (256 < room) = false := decide_eq_false (by omega)
    have d3 : decide (gap < 1) = false := decide_eq_false (by omega)
    have ht : timeB gap = false := by unfold timeB; simp; omega
    rw [ht] at HT
    go_enter Try.func6, Try.ntmps6
    go_wp2_with fail
    refine (HT.out w).mono ?_
    rintro e w' ⟨rfl, rfl⟩
    go_wp2
    go_ret2
    exact ⟨rfl, rfl⟩

end Go.Proofs.Ytadnldnmefhlcaa.PostNe
