/-
  WHAT IS PROVED: how the program's sums turn a word; what the words' operations give, said of Lean's own UInt32. No condition beside those that each theorem names.
-/
import Derived.Test.YtfodloepkgkilaaDoorRows
import Derived.Test.YtfodloepkgkilaaDoorU32
import Derived.Test.YtfodloepkgkilaaDoorShaS
namespace Go.Proofs.YtfodloepkgkilaaDoor.ShaT
open Go Go.RowKit Go.Proofs.YtfodloepkgkilaaDoor Go.Proofs.YtfodloepkgkilaaDoor.U32 Go.Proofs.YtfodloepkgkilaaDoor.ShaS
set_option linter.unusedVariables false
set_option linter.unusedSimpArgs false

theorem or_u (x y : UInt32) : bits .or .u32 (u x) (u y) = u (x ||| y) := by
  show bits .or .u32 (x.toNat : Int) (y.toNat : Int) = _
  rw [u32_or_nat _ _ x.toNat_lt y.toNat_lt, ← UInt32.toNat_or]
  rfl
theorem rot_plain (x : UInt32) (n : Nat) (h0 : 0 < n) (h : n < 32) : bits .or .u32 ((u x * 2 ^ (32 - n)) % 4294967296) (u x / 2 ^ n) = u (rotr x n) := by
  rw [shl_nat x (32 - n) (by omega), shr_nat x n h, or_u]
  unfold rotr
  rw [UInt32.or_comm]

theorem rotate_2 (w : World) (x : UInt32) : Calls Tryd.prog 130 #[.int .u32 (u x), .int .i64 (-2)] w fun e w' => e = .returned (.int .u32 (u (rotr x 2))) ∧ w = w' := by
  have hw : IntKind.u64.wrap (-2) = 18446744073709551616 - 2 := by decide
  have hb : bits .and .u64 (18446744073709551616 - 2) 31 = 30 := by decide
  have hfin := rot_plain x 2 (by omega) (by omega)
  rw [show ((2 : Int) ^ (32 - 2)) = 1073741824 by decide, show ((2 : Int) ^ 2) = 4 by decide] at hfin
  have Hfin := Lib.hid hfin
  have h0 := u_ge x
  have h1 := u_lt x
  obtain ⟨X, hX⟩ : ∃ X, X = u x := ⟨_, rfl⟩
  rw [← hX] at h0 h1 Hfin ⊢
  clear hX hfin
  simp only [Int.reduceSub] at hw hb
  go_enter Tryd.func130, Tryd.ntmps130
  go_wp2
  go_ret
  exact ⟨by rw [← Hfin.out]; rfl, rfl⟩
theorem turn_2 (w : World) (x : UInt32) : Calls Tryd.prog 115 #[.int .u32 (u x), .int .i64 2] w fun e w' => e = .returned (.int .u32 (u (rotr x 2))) ∧ w = w' := by
  go_enter Tryd.func115, Tryd.ntmps115
  go_wp2_with fail
  refine (rotate_2 w x).mono ?_
  rintro e w' ⟨rfl, rfl⟩
  go_wp2
  go_ret
  exact ⟨rfl, rfl⟩

theorem rotate_6 (w : World) (x : UInt32) : Calls Tryd.prog 130 #[.int .u32 (u x), .int .i64 (-6)] w fun e w' => e = .returned (.int .u32 (u (rotr x 6))) ∧ w = w' := by
  have hw : IntKind.u64.wrap (-6) = 18446744073709551616 - 6 := by decide
  have hb : bits .and .u64 (18446744073709551616 - 6) 31 = 26 := by decide
  have hfin := rot_plain x 6 (by omega) (by omega)
  rw [show ((2 : Int) ^ (32 - 6)) = 67108864 by decide, show ((2 : Int) ^ 6) = 64 by decide] at hfin
  have Hfin := Lib.hid hfin
  have h0 := u_ge x
  have h1 := u_lt x
  obtain ⟨X, hX⟩ : ∃ X, X = u x := ⟨_, rfl⟩
  rw [← hX] at h0 h1 Hfin ⊢
  clear hX hfin
  simp only [Int.reduceSub] at hw hb
  go_enter Tryd.func130, Tryd.ntmps130
  go_wp2
  go_ret
  exact ⟨by rw [← Hfin.out]; rfl, rfl⟩
theorem turn_6 (w : World) (x : UInt32) : Calls Tryd.prog 115 #[.int .u32 (u x), .int .i64 6] w fun e w' => e = .returned (.int .u32 (u (rotr x 6))) ∧ w = w' := by
  go_enter Tryd.func115, Tryd.ntmps115
  go_wp2_with fail
  refine (rotate_6 w x).mono ?_
  rintro e w' ⟨rfl, rfl⟩
  go_wp2
  go_ret
  exact ⟨rfl, rfl⟩

theorem rotate_7 (w : World) (x : UInt32) : Calls Tryd.prog 130 #[.int .u32 (u x), .int .i64 (-7)] w fun e w' => e = .returned (.int .u32 (u (rotr x 7))) ∧ w = w' := by
  have hw : IntKind.u64.wrap (-7) = 18446744073709551616 - 7 := by decide
  have hb : bits .and .u64 (18446744073709551616 - 7) 31 = 25 := by decide
  have hfin := rot_plain x 7 (by omega) (by omega)
  rw [show ((2 : Int) ^ (32 - 7)) = 33554432 by decide, show ((2 : Int) ^ 7) = 128 by decide] at hfin
  have Hfin := Lib.hid hfin
  have h0 := u_ge x
  have h1 := u_lt x
  obtain ⟨X, hX⟩ : ∃ X, X = u x := ⟨_, rfl⟩
  rw [← hX] at h0 h1 Hfin ⊢
  clear hX hfin
  simp only [Int.reduceSub] at hw hb
  go_enter Tryd.func130, Tryd.ntmps130
  go_wp2
  go_ret
  exact ⟨by rw [← Hfin.out]; rfl, rfl⟩
theorem turn_7 (w : World) (x : UInt32) : Calls Tryd.prog 115 #[.int .u32 (u x), .int .i64 7] w fun e w' => e = .returned (.int .u32 (u (rotr x 7))) ∧ w = w' := by
  go_enter Tryd.func115, Tryd.ntmps115
  go_wp2_with fail
  refine (rotate_7 w x).mono ?_
  rintro e w' ⟨rfl, rfl⟩
  go_wp2
  go_ret
  exact ⟨rfl, rfl⟩

theorem rotate_11 (w : World) (x : UInt32) : Calls Tryd.prog 130 #[.int .u32 (u x), .int .i64 (-11)] w fun e w' => e = .returned (.int .u32 (u (rotr x 11))) ∧ w = w' := by
  have hw : IntKind.u64.wrap (-11) = 18446744073709551616 - 11 := by decide
  have hb : bits .and .u64 (18446744073709551616 - 11) 31 = 21 := by decide
  have hfin := rot_plain x 11 (by omega) (by omega)
  rw [show ((2 : Int) ^ (32 - 11)) = 2097152 by decide, show ((2 : Int) ^ 11) = 2048 by decide] at hfin
  have Hfin := Lib.hid hfin
  have h0 := u_ge x
  have h1 := u_lt x
  obtain ⟨X, hX⟩ : ∃ X, X = u x := ⟨_, rfl⟩
  rw [← hX] at h0 h1 Hfin ⊢
  clear hX hfin
  simp only [Int.reduceSub] at hw hb
  go_enter Tryd.func130, Tryd.ntmps130
  go_wp2
  go_ret
  exact ⟨by rw [← Hfin.out]; rfl, rfl⟩
theorem turn_11 (w : World) (x : UInt32) : Calls Tryd.prog 115 #[.int .u32 (u x), .int .i64 11] w fun e w' => e = .returned (.int .u32 (u (rotr x 11))) ∧ w = w' := by
  go_enter Tryd.func115, Tryd.ntmps115
  go_wp2_with fail
  refine (rotate_11 w x).mono ?_
  rintro e w' ⟨rfl, rfl⟩
  go_wp2
  go_ret
  exact ⟨rfl, rfl⟩

theorem rotate_13 (w : World) (x : UInt32) : Calls Tryd.prog 130 #[.int .u32 (u x), .int .i64 (-13)] w fun e w' => e = .returned (.int .u32 (u (rotr x 13))) ∧ w = w' := by
  have hw : IntKind.u64.wrap (-13) = 18446744073709551616 - 13 := by decide
  have hb : bits .and .u64 (18446744073709551616 - 13) 31 = 19 := by decide
  have hfin := rot_plain x 13 (by omega) (by omega)
  rw [show ((2 : Int) ^ (32 - 13)) = 524288 by decide, show ((2 : Int) ^ 13) = 8192 by decide] at hfin
  have Hfin := Lib.hid hfin
  have h0 := u_ge x
  have h1 := u_lt x
  obtain ⟨X, hX⟩ : ∃ X, X = u x := ⟨_, rfl⟩
  rw [← hX] at h0 h1 Hfin ⊢
  clear hX hfin
  simp only [Int.reduceSub] at hw hb
  go_enter Tryd.func130, Tryd.ntmps130
  go_wp2
  go_ret
  exact ⟨by rw [← Hfin.out]; rfl, rfl⟩
theorem turn_13 (w : World) (x : UInt32) : Calls Tryd.prog 115 #[.int .u32 (u x), .int .i64 13] w fun e w' => e = .returned (.int .u32 (u (rotr x 13))) ∧ w = w' := by
  go_enter Tryd.func115, Tryd.ntmps115
  go_wp2_with fail
  refine (rotate_13 w x).mono ?_
  rintro e w' ⟨rfl, rfl⟩
  go_wp2
  go_ret
  exact ⟨rfl, rfl⟩

theorem rotate_17 (w : World) (x : UInt32) : Calls Tryd.prog 130 #[.int .u32 (u x), .int .i64 (-17)] w fun e w' => e = .returned (.int .u32 (u (rotr x 17))) ∧ w = w' := by
  have hw : IntKind.u64.wrap (-17) = 18446744073709551616 - 17 := by decide
  have hb : bits .and .u64 (18446744073709551616 - 17) 31 = 15 := by decide
  have hfin := rot_plain x 17 (by omega) (by omega)
  rw [show ((2 : Int) ^ (32 - 17)) = 32768 by decide, show ((2 : Int) ^ 17) = 131072 by decide] at hfin
  have Hfin := Lib.hid hfin
  have h0 := u_ge x
  have h1 := u_lt x
  obtain ⟨X, hX⟩ : ∃ X, X = u x := ⟨_, rfl⟩
  rw [← hX] at h0 h1 Hfin ⊢
  clear hX hfin
  simp only [Int.reduceSub] at hw hb
  go_enter Tryd.func130, Tryd.ntmps130
  go_wp2
  go_ret
  exact ⟨by rw [← Hfin.out]; rfl, rfl⟩
theorem turn_17 (w : World) (x : UInt32) : Calls Tryd.prog 115 #[.int .u32 (u x), .int .i64 17] w fun e w' => e = .returned (.int .u32 (u (rotr x 17))) ∧ w = w' := by
  go_enter Tryd.func115, Tryd.ntmps115
  go_wp2_with fail
  refine (rotate_17 w x).mono ?_
  rintro e w' ⟨rfl, rfl⟩
  go_wp2
  go_ret
  exact ⟨rfl, rfl⟩

theorem rotate_18 (w : World) (x : UInt32) : Calls Tryd.prog 130 #[.int .u32 (u x), .int .i64 (-18)] w fun e w' => e = .returned (.int .u32 (u (rotr x 18))) ∧ w = w' := by
  have hw : IntKind.u64.wrap (-18) = 18446744073709551616 - 18 := by decide
  have hb : bits .and .u64 (18446744073709551616 - 18) 31 = 14 := by decide
  have hfin := rot_plain x 18 (by omega) (by omega)
  rw [show ((2 : Int) ^ (32 - 18)) = 16384 by decide, show ((2 : Int) ^ 18) = 262144 by decide] at hfin
  have Hfin := Lib.hid hfin
  have h0 := u_ge x
  have h1 := u_lt x
  obtain ⟨X, hX⟩ : ∃ X, X = u x := ⟨_, rfl⟩
  rw [← hX] at h0 h1 Hfin ⊢
  clear hX hfin
  simp only [Int.reduceSub] at hw hb
  go_enter Tryd.func130, Tryd.ntmps130
  go_wp2
  go_ret
  exact ⟨by rw [← Hfin.out]; rfl, rfl⟩
theorem turn_18 (w : World) (x : UInt32) : Calls Tryd.prog 115 #[.int .u32 (u x), .int .i64 18] w fun e w' => e = .returned (.int .u32 (u (rotr x 18))) ∧ w = w' := by
  go_enter Tryd.func115, Tryd.ntmps115
  go_wp2_with fail
  refine (rotate_18 w x).mono ?_
  rintro e w' ⟨rfl, rfl⟩
  go_wp2
  go_ret
  exact ⟨rfl, rfl⟩

theorem rotate_19 (w : World) (x : UInt32) : Calls Tryd.prog 130 #[.int .u32 (u x), .int .i64 (-19)] w fun e w' => e = .returned (.int .u32 (u (rotr x 19))) ∧ w = w' := by
  have hw : IntKind.u64.wrap (-19) = 18446744073709551616 - 19 := by decide
  have hb : bits .and .u64 (18446744073709551616 - 19) 31 = 13 := by decide
  have hfin := rot_plain x 19 (by omega) (by omega)
  rw [show ((2 : Int) ^ (32 - 19)) = 8192 by decide, show ((2 : Int) ^ 19) = 524288 by decide] at hfin
  have Hfin := Lib.hid hfin
  have h0 := u_ge x
  have h1 := u_lt x
  obtain ⟨X, hX⟩ : ∃ X, X = u x := ⟨_, rfl⟩
  rw [← hX] at h0 h1 Hfin ⊢
  clear hX hfin
  simp only [Int.reduceSub] at hw hb
  go_enter Tryd.func130, Tryd.ntmps130
  go_wp2
  go_ret
  exact ⟨by rw [← Hfin.out]; rfl, rfl⟩
theorem turn_19 (w : World) (x : UInt32) : Calls Tryd.prog 115 #[.int .u32 (u x), .int .i64 19] w fun e w' => e = .returned (.int .u32 (u (rotr x 19))) ∧ w = w' := by
  go_enter Tryd.func115, Tryd.ntmps115
  go_wp2_with fail
  refine (rotate_19 w x).mono ?_
  rintro e w' ⟨rfl, rfl⟩
  go_wp2
  go_ret
  exact ⟨rfl, rfl⟩

theorem rotate_22 (w : World) (x : UInt32) : Calls Tryd.prog 130 #[.int .u32 (u x), .int .i64 (-22)] w fun e w' => e = .returned (.int .u32 (u (rotr x 22))) ∧ w = w' := by
  have hw : IntKind.u64.wrap (-22) = 18446744073709551616 - 22 := by decide
  have hb : bits .and .u64 (18446744073709551616 - 22) 31 = 10 := by decide
  have hfin := rot_plain x 22 (by omega) (by omega)
  rw [show ((2 : Int) ^ (32 - 22)) = 1024 by decide, show ((2 : Int) ^ 22) = 4194304 by decide] at hfin
  have Hfin := Lib.hid hfin
  have h0 := u_ge x
  have h1 := u_lt x
  obtain ⟨X, hX⟩ : ∃ X, X = u x := ⟨_, rfl⟩
  rw [← hX] at h0 h1 Hfin ⊢
  clear hX hfin
  simp only [Int.reduceSub] at hw hb
  go_enter Tryd.func130, Tryd.ntmps130
  go_wp2
  go_ret
  exact ⟨by rw [← Hfin.out]; rfl, rfl⟩
theorem turn_22 (w : World) (x : UInt32) : Calls Tryd.prog 115 #[.int .u32 (u x), .int .i64 22] w fun e w' => e = .returned (.int .u32 (u (rotr x 22))) ∧ w = w' := by
  go_enter Tryd.func115, Tryd.ntmps115
  go_wp2_with fail
  refine (rotate_22 w x).mono ?_
  rintro e w' ⟨rfl, rfl⟩
  go_wp2
  go_ret
  exact ⟨rfl, rfl⟩

theorem rotate_25 (w : World) (x : UInt32) : Calls Tryd.prog 130 #[.int .u32 (u x), .int .i64 (-25)] w fun e w' => e = .returned (.int .u32 (u (rotr x 25))) ∧ w = w' := by
  have hw : IntKind.u64.wrap (-25) = 18446744073709551616 - 25 := by decide
  have hb : bits .and .u64 (18446744073709551616 - 25) 31 = 7 := by decide
  have hfin := rot_plain x 25 (by omega) (by omega)
  rw [show ((2 : Int) ^ (32 - 25)) = 128 by decide, show ((2 : Int) ^ 25) = 33554432 by decide] at hfin
  have Hfin := Lib.hid hfin
  have h0 := u_ge x
  have h1 := u_lt x
  obtain ⟨X, hX⟩ : ∃ X, X = u x := ⟨_, rfl⟩
  rw [← hX] at h0 h1 Hfin ⊢
  clear hX hfin
  simp only [Int.reduceSub] at hw hb
  go_enter Tryd.func130, Tryd.ntmps130
  go_wp2
  go_ret
  exact ⟨by rw [← Hfin.out]; rfl, rfl⟩
theorem turn_25 (w : World) (x : UInt32) : Calls Tryd.prog 115 #[.int .u32 (u x), .int .i64 25] w fun e w' => e = .returned (.int .u32 (u (rotr x 25))) ∧ w = w' := by
  go_enter Tryd.func115, Tryd.ntmps115
  go_wp2_with fail
  refine (rotate_25 w x).mono ?_
  rintro e w' ⟨rfl, rfl⟩
  go_wp2
  go_ret
  exact ⟨rfl, rfl⟩

end Go.Proofs.YtfodloepkgkilaaDoor.ShaT
