/-
  WHAT IS PROVED: how long small numbers are. Condition: below 100.
-/
import Derived.Test.YtjiakfblgefioaaGreatDoorWitB
import Derived.Lib.Tables
namespace Go.Proofs.YtjiakfblgefioaaGreatDoor.WitL
open Go Go.RowKit Go.Shelf Go.Proofs.YtjiakfblgefioaaGreatDoor Go.Proofs.YtjiakfblgefioaaGreatDoor.WitS
set_option linter.unusedVariables false
set_option linter.unusedSimpArgs false

theorem len8_high : ∀ n : Fin 100, Lib.len8 (n.val : Int) = high ((n.val : Int) + 1) := by decide +kernel
set_option maxHeartbeats 32000000 in
set_option maxRecDepth 1000000 in
theorem Len64_ok (w : World) (n : Nat) (hn : n < 100) : Calls Tryz.prog 45 #[.int .u64 n] w fun e w' => e = .returned (.int .i64 (high ((n : Int) + 1))) ∧ w = w' := by
  have h0 : 0 ≤ (n : Int) ∧ (n : Int) < 256 := by omega
  have hl := len8_high ⟨n, hn⟩
  simp only at hl
  rw [← hl]
  have d1 : decide (4294967296 ≤ (n : Int)) = false := by simp; omega
  have d2 : decide (65536 ≤ (n : Int)) = false := by simp; omega
  have d3 : decide (256 ≤ (n : Int)) = false := by simp; omega
  obtain ⟨N, hN⟩ : ∃ N : Int, N = n := ⟨_, rfl⟩
  have hy : 0 ≤ Lib.len8 (n : Int) ∧ Lib.len8 (n : Int) ≤ 8 := by
    rw [hl]
    unfold high
    repeat' split
    all_goals omega
  rw [← hN] at d1 d2 d3 h0 hy ⊢
  have h1 : 0 ≤ N := h0.1
  have h2 : N ≤ 255 := by omega
  have HY := Lib.hid hy
  clear h0 hN hn hl hy
  go_enter Tryz.func45, Tryz.ntmps45
  go_wp2
  go_ret
  have hy := HY.out
  exact ⟨by rw [show wrap64 (wrap64 (Lib.len8 N)) = Lib.len8 N by unfold wrap64; omega]; rfl, rfl⟩
theorem Len_ok (w : World) (n : Nat) (hn : n < 100) : Calls Tryz.prog 23 #[.int .u64 n] w fun e w' => e = .returned (.int .i64 (high ((n : Int) + 1))) ∧ w = w' := by
  have h := Len64_ok w n hn
  have H := Lib.hid h
  clear h
  obtain ⟨y, hy⟩ : ∃ y, y = high ((n : Int) + 1) := ⟨_, rfl⟩
  rw [← hy] at H ⊢
  clear hy
  go_enter Tryz.func23, Tryz.ntmps23
  go_wp2_with fail
  refine H.out.mono ?_
  rintro e w' ⟨rfl, rfl⟩
  go_wp2
  go_ret
  exact ⟨rfl, rfl⟩
end Go.Proofs.YtjiakfblgefioaaGreatDoor.WitL
