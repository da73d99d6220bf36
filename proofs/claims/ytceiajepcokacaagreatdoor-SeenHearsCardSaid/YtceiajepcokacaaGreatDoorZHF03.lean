/-
  WHAT IS PROVED: contracts and plain laws. Condition: each names its own.
-/
import Derived.Test.YtceiajepcokacaaGreatDoorS0
import Derived.Test.YtceiajepcokacaaGreatDoorZHF02
import Derived.Laws.CopyOwn
import Derived.Lib.SlBytesConst
import Derived.StillTailTactics
set_option linter.unusedVariables false
set_option linter.unusedSimpArgs false
set_option maxRecDepth 100000
set_option maxHeartbeats 4000000
namespace Go.Proofs.YtceiajepcokacaaGreatDoor
open Go.Proofs.Tryz
namespace ShaT
open Go Go.RowKit U32 ShaS
theorem or_u (x y : UInt32) : bits .or .u32 (u x) (u y) = u (x ||| y) := by
 show bits .or .u32 (x.toNat : Int) (y.toNat : Int) = _
 rw [u32_or_nat _ _ x.toNat_lt y.toNat_lt, ← UInt32.toNat_or]
 rfl
theorem DC (x : UInt32) (n : Nat) (h0 : 0 < n) (h : n < 32) : bits .or .u32 ((u x * 2 ^ (32 - n)) % 4294967296) (u x / 2 ^ n) = u (rotr x n) := by
 rw [shl_nat x (32 - n) (by omega), G8 x n h, or_u]
 unfold rotr
 rw [UInt32.or_comm]
theorem TL (w : World) (x : UInt32) : Calls Tryz.prog 125 #[.int .u32 (u x), .int .i64 (-2)] w fun e w' => e = .returned (.int .u32 (u (rotr x 2))) ∧ w = w' := by
 have hw : IntKind.u64.wrap (-2) = 18446744073709551616 - 2 := by decide
 have hb : bits .and .u64 (18446744073709551616 - 2) 31 = 30 := by decide
 have hfin := DC x 2 (by omega) (by omega)
 rw [show ((2 : Int) ^ (32 - 2)) = 1073741824 by decide, show ((2 : Int) ^ 2) = 4 by decide] at hfin
 have Hfin := lh hfin
 have h0 := u_ge x
 have h1 := u_lt x
 obtain ⟨X, hX⟩ := nXe (u x)
 rw [← hX] at h0 h1 Hfin ⊢
 clear hX hfin
 simp only [Int.reduceSub] at hw hb
 go_enter func125, ntmps125
 go_wp2
 go_ret
 exact ⟨by rw [← Hfin.out]; rfl, rfl⟩
theorem Wl (w : World) (x : UInt32) : Calls Tryz.prog 106 #[.int .u32 (u x), .int .i64 2] w fun e w' => e = .returned (.int .u32 (u (rotr x 2))) ∧ w = w' := by
 go_enter func106, ntmps106
 go_wp2_with fail
 refine (TL w x).mono ?_
 rintro e w' ⟨rfl, rfl⟩
 go_wp2
 go_ret
 exact ⟨rfl, rfl⟩
theorem TK (w : World) (x : UInt32) : Calls Tryz.prog 125 #[.int .u32 (u x), .int .i64 (-6)] w fun e w' => e = .returned (.int .u32 (u (rotr x 6))) ∧ w = w' := by
 have hw : IntKind.u64.wrap (-6) = 18446744073709551616 - 6 := by decide
 have hb : bits .and .u64 (18446744073709551616 - 6) 31 = 26 := by decide
 have hfin := DC x 6 (by omega) (by omega)
 rw [show ((2 : Int) ^ (32 - 6)) = 67108864 by decide, show ((2 : Int) ^ 6) = 64 by decide] at hfin
 have Hfin := lh hfin
 have h0 := u_ge x
 have h1 := u_lt x
 obtain ⟨X, hX⟩ := nXe (u x)
 rw [← hX] at h0 h1 Hfin ⊢
 clear hX hfin
 simp only [Int.reduceSub] at hw hb
 go_enter func125, ntmps125
 go_wp2
 go_ret
 exact ⟨by rw [← Hfin.out]; rfl, rfl⟩
theorem Wj (w : World) (x : UInt32) : Calls Tryz.prog 106 #[.int .u32 (u x), .int .i64 6] w fun e w' => e = .returned (.int .u32 (u (rotr x 6))) ∧ w = w' := by
 go_enter func106, ntmps106
 go_wp2_with fail
 refine (TK w x).mono ?_
 rintro e w' ⟨rfl, rfl⟩
 go_wp2
 go_ret
 exact ⟨rfl, rfl⟩
theorem TJ (w : World) (x : UInt32) : Calls Tryz.prog 125 #[.int .u32 (u x), .int .i64 (-7)] w fun e w' => e = .returned (.int .u32 (u (rotr x 7))) ∧ w = w' := by
 have hw : IntKind.u64.wrap (-7) = 18446744073709551616 - 7 := by decide
 have hb : bits .and .u64 (18446744073709551616 - 7) 31 = 25 := by decide
 have hfin := DC x 7 (by omega) (by omega)
 rw [show ((2 : Int) ^ (32 - 7)) = 33554432 by decide, show ((2 : Int) ^ 7) = 128 by decide] at hfin
 have Hfin := lh hfin
 have h0 := u_ge x
 have h1 := u_lt x
 obtain ⟨X, hX⟩ := nXe (u x)
 rw [← hX] at h0 h1 Hfin ⊢
 clear hX hfin
 simp only [Int.reduceSub] at hw hb
 go_enter func125, ntmps125
 go_wp2
 go_ret
 exact ⟨by rw [← Hfin.out]; rfl, rfl⟩
theorem Wi (w : World) (x : UInt32) : Calls Tryz.prog 106 #[.int .u32 (u x), .int .i64 7] w fun e w' => e = .returned (.int .u32 (u (rotr x 7))) ∧ w = w' := by
 go_enter func106, ntmps106
 go_wp2_with fail
 refine (TJ w x).mono ?_
 rintro e w' ⟨rfl, rfl⟩
 go_wp2
 go_ret
 exact ⟨rfl, rfl⟩
theorem Rm (w : World) (x : UInt32) : Calls Tryz.prog 125 #[.int .u32 (u x), .int .i64 (-11)] w fun e w' => e = .returned (.int .u32 (u (rotr x 11))) ∧ w = w' := by
 have hw : IntKind.u64.wrap (-11) = 18446744073709551616 - 11 := by decide
 have hb : bits .and .u64 (18446744073709551616 - 11) 31 = 21 := by decide
 have hfin := DC x 11 (by omega) (by omega)
 rw [show ((2 : Int) ^ (32 - 11)) = 2097152 by decide, show ((2 : Int) ^ 11) = 2048 by decide] at hfin
 have Hfin := lh hfin
 have h0 := u_ge x
 have h1 := u_lt x
 obtain ⟨X, hX⟩ := nXe (u x)
 rw [← hX] at h0 h1 Hfin ⊢
 clear hX hfin
 simp only [Int.reduceSub] at hw hb
 go_enter func125, ntmps125
 go_wp2
 go_ret
 exact ⟨by rw [← Hfin.out]; rfl, rfl⟩
theorem Um (w : World) (x : UInt32) : Calls Tryz.prog 106 #[.int .u32 (u x), .int .i64 11] w fun e w' => e = .returned (.int .u32 (u (rotr x 11))) ∧ w = w' := by
 go_enter func106, ntmps106
 go_wp2_with fail
 refine (Rm w x).mono ?_
 rintro e w' ⟨rfl, rfl⟩
 go_wp2
 go_ret
 exact ⟨rfl, rfl⟩
theorem Rl (w : World) (x : UInt32) : Calls Tryz.prog 125 #[.int .u32 (u x), .int .i64 (-13)] w fun e w' => e = .returned (.int .u32 (u (rotr x 13))) ∧ w = w' := by
 have hw : IntKind.u64.wrap (-13) = 18446744073709551616 - 13 := by decide
 have hb : bits .and .u64 (18446744073709551616 - 13) 31 = 19 := by decide
 have hfin := DC x 13 (by omega) (by omega)
 rw [show ((2 : Int) ^ (32 - 13)) = 524288 by decide, show ((2 : Int) ^ 13) = 8192 by decide] at hfin
 have Hfin := lh hfin
 have h0 := u_ge x
 have h1 := u_lt x
 obtain ⟨X, hX⟩ := nXe (u x)
 rw [← hX] at h0 h1 Hfin ⊢
 clear hX hfin
 simp only [Int.reduceSub] at hw hb
 go_enter func125, ntmps125
 go_wp2
 go_ret
 exact ⟨by rw [← Hfin.out]; rfl, rfl⟩
theorem Ul (w : World) (x : UInt32) : Calls Tryz.prog 106 #[.int .u32 (u x), .int .i64 13] w fun e w' => e = .returned (.int .u32 (u (rotr x 13))) ∧ w = w' := by
 go_enter func106, ntmps106
 go_wp2_with fail
 refine (Rl w x).mono ?_
 rintro e w' ⟨rfl, rfl⟩
 go_wp2
 go_ret
 exact ⟨rfl, rfl⟩
theorem Rk (w : World) (x : UInt32) : Calls Tryz.prog 125 #[.int .u32 (u x), .int .i64 (-17)] w fun e w' => e = .returned (.int .u32 (u (rotr x 17))) ∧ w = w' := by
 have hw : IntKind.u64.wrap (-17) = 18446744073709551616 - 17 := by decide
 have hb : bits .and .u64 (18446744073709551616 - 17) 31 = 15 := by decide
 have hfin := DC x 17 (by omega) (by omega)
 rw [show ((2 : Int) ^ (32 - 17)) = 32768 by decide, show ((2 : Int) ^ 17) = 131072 by decide] at hfin
 have Hfin := lh hfin
 have h0 := u_ge x
 have h1 := u_lt x
 obtain ⟨X, hX⟩ := nXe (u x)
 rw [← hX] at h0 h1 Hfin ⊢
 clear hX hfin
 simp only [Int.reduceSub] at hw hb
 go_enter func125, ntmps125
 go_wp2
 go_ret
 exact ⟨by rw [← Hfin.out]; rfl, rfl⟩
theorem Uk (w : World) (x : UInt32) : Calls Tryz.prog 106 #[.int .u32 (u x), .int .i64 17] w fun e w' => e = .returned (.int .u32 (u (rotr x 17))) ∧ w = w' := by
 go_enter func106, ntmps106
 go_wp2_with fail
 refine (Rk w x).mono ?_
 rintro e w' ⟨rfl, rfl⟩
 go_wp2
 go_ret
 exact ⟨rfl, rfl⟩
theorem Rj (w : World) (x : UInt32) : Calls Tryz.prog 125 #[.int .u32 (u x), .int .i64 (-18)] w fun e w' => e = .returned (.int .u32 (u (rotr x 18))) ∧ w = w' := by
 have hw : IntKind.u64.wrap (-18) = 18446744073709551616 - 18 := by decide
 have hb : bits .and .u64 (18446744073709551616 - 18) 31 = 14 := by decide
 have hfin := DC x 18 (by omega) (by omega)
 rw [show ((2 : Int) ^ (32 - 18)) = 16384 by decide, show ((2 : Int) ^ 18) = 262144 by decide] at hfin
 have Hfin := lh hfin
 have h0 := u_ge x
 have h1 := u_lt x
 obtain ⟨X, hX⟩ := nXe (u x)
 rw [← hX] at h0 h1 Hfin ⊢
 clear hX hfin
 simp only [Int.reduceSub] at hw hb
 go_enter func125, ntmps125
 go_wp2
 go_ret
 exact ⟨by rw [← Hfin.out]; rfl, rfl⟩
theorem Uj (w : World) (x : UInt32) : Calls Tryz.prog 106 #[.int .u32 (u x), .int .i64 18] w fun e w' => e = .returned (.int .u32 (u (rotr x 18))) ∧ w = w' := by
 go_enter func106, ntmps106
 go_wp2_with fail
 refine (Rj w x).mono ?_
 rintro e w' ⟨rfl, rfl⟩
 go_wp2
 go_ret
 exact ⟨rfl, rfl⟩
theorem Ri (w : World) (x : UInt32) : Calls Tryz.prog 125 #[.int .u32 (u x), .int .i64 (-19)] w fun e w' => e = .returned (.int .u32 (u (rotr x 19))) ∧ w = w' := by
 have hw : IntKind.u64.wrap (-19) = 18446744073709551616 - 19 := by decide
 have hb : bits .and .u64 (18446744073709551616 - 19) 31 = 13 := by decide
 have hfin := DC x 19 (by omega) (by omega)
 rw [show ((2 : Int) ^ (32 - 19)) = 8192 by decide, show ((2 : Int) ^ 19) = 524288 by decide] at hfin
 have Hfin := lh hfin
 have h0 := u_ge x
 have h1 := u_lt x
 obtain ⟨X, hX⟩ := nXe (u x)
 rw [← hX] at h0 h1 Hfin ⊢
 clear hX hfin
 simp only [Int.reduceSub] at hw hb
 go_enter func125, ntmps125
 go_wp2
 go_ret
 exact ⟨by rw [← Hfin.out]; rfl, rfl⟩
theorem Ui (w : World) (x : UInt32) : Calls Tryz.prog 106 #[.int .u32 (u x), .int .i64 19] w fun e w' => e = .returned (.int .u32 (u (rotr x 19))) ∧ w = w' := by
 go_enter func106, ntmps106
 go_wp2_with fail
 refine (Ri w x).mono ?_
 rintro e w' ⟨rfl, rfl⟩
 go_wp2
 go_ret
 exact ⟨rfl, rfl⟩
theorem Rh (w : World) (x : UInt32) : Calls Tryz.prog 125 #[.int .u32 (u x), .int .i64 (-22)] w fun e w' => e = .returned (.int .u32 (u (rotr x 22))) ∧ w = w' := by
 have hw : IntKind.u64.wrap (-22) = 18446744073709551616 - 22 := by decide
 have hb : bits .and .u64 (18446744073709551616 - 22) 31 = 10 := by decide
 have hfin := DC x 22 (by omega) (by omega)
 rw [show ((2 : Int) ^ (32 - 22)) = 1024 by decide, show ((2 : Int) ^ 22) = 4194304 by decide] at hfin
 have Hfin := lh hfin
 have h0 := u_ge x
 have h1 := u_lt x
 obtain ⟨X, hX⟩ := nXe (u x)
 rw [← hX] at h0 h1 Hfin ⊢
 clear hX hfin
 simp only [Int.reduceSub] at hw hb
 go_enter func125, ntmps125
 go_wp2
 go_ret
 exact ⟨by rw [← Hfin.out]; rfl, rfl⟩
theorem Uh (w : World) (x : UInt32) : Calls Tryz.prog 106 #[.int .u32 (u x), .int .i64 22] w fun e w' => e = .returned (.int .u32 (u (rotr x 22))) ∧ w = w' := by
 go_enter func106, ntmps106
 go_wp2_with fail
 refine (Rh w x).mono ?_
 rintro e w' ⟨rfl, rfl⟩
 go_wp2
 go_ret
 exact ⟨rfl, rfl⟩
theorem Rf (w : World) (x : UInt32) : Calls Tryz.prog 125 #[.int .u32 (u x), .int .i64 (-25)] w fun e w' => e = .returned (.int .u32 (u (rotr x 25))) ∧ w = w' := by
 have hw : IntKind.u64.wrap (-25) = 18446744073709551616 - 25 := by decide
 have hb : bits .and .u64 (18446744073709551616 - 25) 31 = 7 := by decide
 have hfin := DC x 25 (by omega) (by omega)
 rw [show ((2 : Int) ^ (32 - 25)) = 128 by decide, show ((2 : Int) ^ 25) = 33554432 by decide] at hfin
 have Hfin := lh hfin
 have h0 := u_ge x
 have h1 := u_lt x
 obtain ⟨X, hX⟩ := nXe (u x)
 rw [← hX] at h0 h1 Hfin ⊢
 clear hX hfin
 simp only [Int.reduceSub] at hw hb
 go_enter func125, ntmps125
 go_wp2
 go_ret
 exact ⟨by rw [← Hfin.out]; rfl, rfl⟩
theorem Ug (w : World) (x : UInt32) : Calls Tryz.prog 106 #[.int .u32 (u x), .int .i64 25] w fun e w' => e = .returned (.int .u32 (u (rotr x 25))) ∧ w = w' := by
 go_enter func106, ntmps106
 go_wp2_with fail
 refine (Rf w x).mono ?_
 rintro e w' ⟨rfl, rfl⟩
 go_wp2
 go_ret
 exact ⟨rfl, rfl⟩
end ShaT
namespace ShaW
open Go Go.RowKit U32 ShaS ShaT Steps
attribute [local go_sem high] b_add IZ b_or b_and Ff b_shr3 b_shr10
def wV (l : List UInt32) : List Value := l.map V
theorem wV_length (l : List UInt32) : (wV l).length = l.length := by simp [wV]
def part (n : Nat) (l : List UInt32) : Array Value := (wV (l ++ List.replicate (n - l.length) 0)).toArray
theorem GH {n : Nat} {l : List UInt32} (h : l.length ≤ n) : (part n l).size = n := by simp [part, wV]; omega
theorem Dt {n : Nat} {l : List UInt32} {i : Nat} (h : i < l.length) : (part n l)[i]? = some (V (l.getD i 0)) := by
 simp only [part, wV, List.getElem?_toArray, List.getElem?_map]
 rw [List.getElem?_append_left h, List.getElem?_eq_getElem h, List.getD_eq_getElem?_getD, List.getElem?_eq_getElem h]
 rfl
theorem part_set {n : Nat} {l : List UInt32} (h : l.length < n) (x : UInt32) : (part n l).setIfInBounds l.length (V x) = part n (l ++ [x]) := by
 unfold part wV
 rw [List.setIfInBounds_toArray]
 congr 1
 have e : n - l.length = (n - (l ++ [x]).length) + 1 := by simp; omega
 rw [e, List.replicate_succ]
 simp only [List.map_append, List.map_cons, List.append_assoc, List.singleton_append]
 rw [List.set_append_right _ _ (by simp)]
 simp
theorem part_full {n : Nat} {l : List UInt32} (h : l.length = n) : part n l = (wV l).toArray := by
 unfold part
 rw [h, Nat.sub_self]
 simp
theorem wV_one (l : List UInt32) : (wV l).toArray.all (·.oneCell') = true := by
 simp [wV, Value.oneCell']
theorem part_rest {n : Nat} {l : List UInt32} {i : Nat} (h : l.length ≤ i) (hn : i < n) : (part n l)[i]? = some (V 0) := by
 simp only [part, wV, List.getElem?_toArray, List.getElem?_map]
 rw [List.getElem?_append_right h, List.getElem?_replicate, if_pos (by omega)]
 rfl
theorem QK {a b c d : Nat} (ha : a < 256) (hb : b < 256) (hc : c < 256) (hd : d < 256) :
 bits .or .u32 (bits .or .u32 (bits .or .u32 ((a : Int) * 16777216) ((b : Int) * 65536)) ((c : Int) * 256)) (d : Int) = ((a * 16777216 + b * 65536 + c * 256 + d : Nat) : Int) := by
 have e1 : a * 16777216 ||| b * 65536 = a * 16777216 + b * 65536 := by
  have := Nat.two_pow_add_eq_or_of_lt (i := 24) (b := b * 65536) (by omega) a
  rw [Nat.mul_comm a]
  exact this.symm
 have e2 : (a * 16777216 + b * 65536) ||| c * 256 = a * 16777216 + b * 65536 + c * 256 := by
  have := Nat.two_pow_add_eq_or_of_lt (i := 16) (b := c * 256) (by omega) (a * 256 + b)
  rw [show a * 16777216 + b * 65536 = 2 ^ 16 * (a * 256 + b) by omega]
  exact this.symm
 have e3 : (a * 16777216 + b * 65536 + c * 256) ||| d = a * 16777216 + b * 65536 + c * 256 + d := by
  have := Nat.two_pow_add_eq_or_of_lt (i := 8) (b := d) (by omega) (a * 65536 + b * 256 + c)
  rw [show a * 16777216 + b * 65536 + c * 256 = 2 ^ 8 * (a * 65536 + b * 256 + c) by omega]
  exact this.symm
 have h1 := u32_or_nat (a * 16777216) (b * 65536) (by omega) (by omega)
 have h2 := u32_or_nat (a * 16777216 + b * 65536) (c * 256) (by omega) (by omega)
 have h3 := u32_or_nat (a * 16777216 + b * 65536 + c * 256) d (by omega) (by omega)
 rw [e1] at h1
 rw [e2] at h2
 rw [e3] at h3
 rw [show (a : Int) * 16777216 = ((a * 16777216 : Nat) : Int) by omega, show (b : Int) * 65536 = ((b * 65536 : Nat) : Int) by omega, show (c : Int) * 256 = ((c * 256 : Nat) : Int) by omega, h1, h2, h3]
theorem words_ok (w : World) (v : Value) (b : List UInt8) (hb : b.length = 64) (hv : Sl w v 1 64 (byV b)) :
 Calls Tryz.prog 105 #[v] w fun e w' => e = .returned (.agg (wV (ShaS.words b)).toArray) ∧ Below w.heap.size w w' := by
 obtain ⟨a, cap, rfl, hcap, hm⟩ := hv.form
 obtain ⟨B, off, rfl, hBl, hcell⟩ := hv.plain (by rw [AZ]; omega)
 have hcell' : ∀ j, j < 64 → w.cell? ⟨B, off + j, none⟩ = some (.int .u8 ((b.getD j 0).toNat : Int)) := by
  intro j hj
  refine hcell j _ ?_
  unfold byV
  rw [List.getElem?_map, List.getElem?_eq_getElem (by omega), List.getD_eq_getElem?_getD, List.getElem?_eq_getElem (by omega)]
  rfl
 have Hcell := lh hcell'
 have hcap' : (64 : Nat) ≤ cap := hcap
 clear hv hcell hcell'
 obtain ⟨W0, hW0⟩ := nXe ((w.alloc (.cells zL4 164)).alloc (.cells zL4 164))
 have hz : (zL4 : Array Value) = part 64 [] := by kernel_rfl
 have hB0 : Below w.heap.size w W0 := by rw [hW0]; exact ((Below.refl _ w).alloc nR _).alloc (by simp) _
 have hx0 : W0.heap[w.heap.size]? = some (.cells (part 64 []) 164 (0, 0)) := by rw [hW0, hz]; exact Ak (AL _ _) _
 have hy0 : W0.heap[w.heap.size + 1]? = some (.cells (part 64 []) 164 (0, 0)) := by rw [hW0, hz]; exact Ad _ (by simp)
 obtain ⟨HB0, HW0⟩ := l2h hB0 hW0
 clear hB0 hW0 hz
 go_enter func105, ntmps105
 go_wp2
 go_loopw [10] (fun i wr => ∃ t : Nat, i = .int .i64 t ∧ t ≤ 16 ∧ wr.heap[w.heap.size]? = some (.cells (part 64 []) 164 (0, 0)) ∧ wr.heap[w.heap.size + 1]? = some (.cells (part 64 (wN b t)) 164 (0, 0)) ∧ Below w.heap.size w wr) (fun i _ => 16 - (intOf i).toNat)
 case atStart =>
  rw [← HW0.out]
  exact ⟨0, rfl, by omega, hx0, hy0, HB0.out⟩
 case round =>
  obtain ⟨t, rfl, ht, hx, hy, hb2⟩ := hrel
  clear hx0 hy0
  have hwl := BS b t
  obtain ⟨Hx, Hy, HB⟩ := l3h hx hy hb2
  have hyl := AJ hy
  clear hx hb2
  by_cases hlt : t < 16
  ·obtain ⟨y0, h0⟩ := nXe ((b.getD (4 * t) 0).toNat)
   obtain ⟨y1, h1⟩ := nXe ((b.getD (4 * t + 1) 0).toNat)
   obtain ⟨y2, h2⟩ := nXe ((b.getD (4 * t + 2) 0).toNat)
   obtain ⟨y3, h3⟩ := nXe ((b.getD (4 * t + 3) 0).toNat)
   have z0 : y0 < 256 := by rw [h0]; exact UInt8.toNat_lt _
   have z1 : y1 < 256 := by rw [h1]; exact UInt8.toNat_lt _
   have z2 : y2 < 256 := by rw [h2]; exact UInt8.toNat_lt _
   have z3 : y3 < 256 := by rw [h3]; exact UInt8.toNat_lt _
   have c0 : wr.cell? ⟨B, off + 4 * t, none⟩ = some (.int .u8 (y0 : Int)) := by rw [HB.out.cell (p := ⟨B, off + 4 * t, none⟩) hBl, Hcell.out (4 * t) (by omega), h0]
   have c1 : wr.cell? ⟨B, off + (4 * t + 1), none⟩ = some (.int .u8 (y1 : Int)) := by rw [HB.out.cell (p := ⟨B, off + (4 * t + 1), none⟩) hBl, Hcell.out (4 * t + 1) (by omega), h1]
   have c2 : wr.cell? ⟨B, off + (4 * t + 2), none⟩ = some (.int .u8 (y2 : Int)) := by rw [HB.out.cell (p := ⟨B, off + (4 * t + 2), none⟩) hBl, Hcell.out (4 * t + 2) (by omega), h2]
   have c3 : wr.cell? ⟨B, off + (4 * t + 3), none⟩ = some (.int .u8 (y3 : Int)) := by rw [HB.out.cell (p := ⟨B, off + (4 * t + 3), none⟩) hBl, Hcell.out (4 * t + 3) (by omega), h3]
   have cs : wr.cell? ⟨w.heap.size + 1, t, none⟩ = some (.int .u32 (u 0)) := by rw [AO hy]; exact part_rest (by omega) (by omega)
   have cf : wr.frozen? ⟨w.heap.size + 1, t, none⟩ = false := BK hy
   have hval : V (Gy (b.getD (4 * t) 0) (b.getD (4 * t + 1) 0) (b.getD (4 * t + 2) 0) (b.getD (4 * t + 3) 0)) = .int .u32 (bits .or .u32 (bits .or .u32 (bits .or .u32 ((y0 : Int) * 16777216) ((y1 : Int) * 65536)) ((y2 : Int) * 256)) (y3 : Int)) := by
        rw [QK z0 z1 z2 z3]
        unfold V u Gy
        rw [← h0, ← h1, ← h2, ← h3, UInt32.toNat_ofNat', Nat.mod_eq_of_lt (by omega)]
   have Hval := lh hval
   clear hy hval h0 h1 h2 h3 hwl
   have v0 : IntKind.i64.wrap (4 * (t : Int)) = 4 * (t : Int) := IntWalk.i64_in _ (by omega)
   have v1 : IntKind.i64.wrap (4 * (t : Int) + 1) = 4 * (t : Int) + 1 := IntWalk.i64_in _ (by omega)
   have v2 : IntKind.i64.wrap (4 * (t : Int) + 2) = 4 * (t : Int) + 2 := IntWalk.i64_in _ (by omega)
   have v3 : IntKind.i64.wrap (4 * (t : Int) + 3) = 4 * (t : Int) + 3 := IntWalk.i64_in _ (by omega)
   have n0 : (4 * (t : Int)).toNat = 4 * t := by omega
   have n1 : (4 * (t : Int) + 1).toNat = 4 * t + 1 := by omega
   have n2 : (4 * (t : Int) + 2).toNat = 4 * t + 2 := by omega
   have n3 : (4 * (t : Int) + 3).toNat = 4 * t + 3 := by omega
   have x0 : IntKind.u32.wrap (y0 : Int) = (y0 : Int) := IntWalk.u32_in _ (by omega)
   have x1 : IntKind.u32.wrap (y1 : Int) = (y1 : Int) := IntWalk.u32_in _ (by omega)
   have x2 : IntKind.u32.wrap (y2 : Int) = (y2 : Int) := IntWalk.u32_in _ (by omega)
   have x3 : IntKind.u32.wrap (y3 : Int) = (y3 : Int) := IntWalk.u32_in _ (by omega)
   have s0 : IntKind.u32.wrap ((y0 : Int) * 16777216) = (y0 : Int) * 16777216 := IntWalk.u32_in _ (by omega)
   have s1 : IntKind.u32.wrap ((y1 : Int) * 65536) = (y1 : Int) * 65536 := IntWalk.u32_in _ (by omega)
   have s2 : IntKind.u32.wrap ((y2 : Int) * 256) = (y2 : Int) * 256 := IntWalk.u32_in _ (by omega)
   have g0 : 0 ≤ 4 * (t : Int) ∧ 4 * (t : Int) < 64 := by omega
   have g1 : 0 ≤ 4 * (t : Int) + 1 ∧ 4 * (t : Int) + 1 < 64 := by omega
   have g2 : 0 ≤ 4 * (t : Int) + 2 ∧ 4 * (t : Int) + 2 < 64 := by omega
   have g3 : 0 ≤ 4 * (t : Int) + 3 ∧ 4 * (t : Int) + 3 < 64 := by omega
   have gt : 0 ≤ (t : Int) ∧ (t : Int) < 64 := by omega
   go_wp2
   go_still_tail 35, (by kernel_rfl)
   clear v0 v1 v2 v3 n0 n1 n2 n3 x0 x1 x2 x3 s0 s1 s2 g0 g1 g2 g3 gt
   go_wp2
   go_roundw
   case rel =>
        refine ⟨t + 1, by go_num, by omega, (AX (w := wr) (b := w.heap.size + 1) (j := t) _ (by omega)).trans Hx.out, ?_, (HB.out.setCell (p := ⟨w.heap.size + 1, t, none⟩) (by simp) _).drew⟩
        rw [wN, if_pos hlt, ← part_set (by rw [BS]; omega), Hval.out, BS]
        exact heap_setCell_same Hy.out _
   case measure => simp [intOf]; omega
  ·obtain rfl : t = 16 := by omega
   clear hlt hwl hy
   go_wp2
   obtain ⟨wo, rfl⟩ : ∃ wo : World, wo = wr := ⟨_, rfl⟩
   rw [show ((16 : Nat) : Int) = 16 from rfl]
   go_loopw [5] (fun i wq => ∃ r : Nat, i = .int .i64 ((r : Int) + 16) ∧ r ≤ 48 ∧ wq.heap[w.heap.size]? = some (.cells (part 64 []) 164 (0, 0)) ∧ wq.heap[w.heap.size + 1]? = some (.cells (part 64 (wN b (r + 16))) 164 (0, 0)) ∧ Below w.heap.size w wq) (fun i _ => 64 - (intOf i).toNat)
   case atStart => exact ⟨0, rfl, by omega, Hx.out, Hy.out, HB.out⟩
   case round =>
        obtain ⟨r, rfl, hr, hx, hy, hb2⟩ := hrel
        have hwl := BS b (r + 16)
        obtain ⟨Hx2, Hy2, HB2⟩ := l3h hx hy hb2
        have hyl2 := AJ hy
        clear hx hb2
        by_cases hlt : r < 48
        ·obtain ⟨X, hX⟩ := nXe ((wN b (r + 16)).getD (r + 1) 0)
         obtain ⟨Y, hY⟩ := nXe ((wN b (r + 16)).getD (r + 14) 0)
         obtain ⟨A, hA⟩ := nXe ((wN b (r + 16)).getD r 0)
         obtain ⟨C, hC⟩ := nXe ((wN b (r + 16)).getD (r + 9) 0)
         have c0 : wr.cell? ⟨w.heap.size + 1, r + 1, none⟩ = some (.int .u32 (u X)) := by rw [AO hy, Dt (by omega), hX]
         have c1 : wr.cell? ⟨w.heap.size + 1, r + 14, none⟩ = some (.int .u32 (u Y)) := by rw [AO hy, Dt (by omega), hY]
         have c2 : wr.cell? ⟨w.heap.size + 1, r, none⟩ = some (.int .u32 (u A)) := by rw [AO hy, Dt (by omega), hA]
         have c3 : wr.cell? ⟨w.heap.size + 1, r + 9, none⟩ = some (.int .u32 (u C)) := by rw [AO hy, Dt (by omega), hC]
         have cs : wr.cell? ⟨w.heap.size + 1, r + 16, none⟩ = some (.int .u32 (u 0)) := by rw [AO hy]; exact part_rest (by omega) (by omega)
         have cf : wr.frozen? ⟨w.heap.size + 1, r + 16, none⟩ = false := BK hy
         have hval : nextW (wN b (r + 16)) (r + 16) = A + (rotr X 7 ^^^ rotr X 18 ^^^ X >>> 3) + C + (rotr Y 17 ^^^ rotr Y 19 ^^^ Y >>> 10) := by
          unfold nextW
          rw [show r + 16 - 15 = r + 1 by omega, show r + 16 - 2 = r + 14 by omega, show r + 16 - 16 = r by omega, show r + 16 - 7 = r + 9 by omega, ← hX, ← hY, ← hA, ← hC]
         have Hval := lh hval
         clear hy hval hX hY hA hC hwl
         have v0 : IntKind.i64.wrap ((r : Int) + 16 - 15) = (r : Int) + 1 := (IntWalk.i64_in _ (by omega)).trans (by omega)
         have v1 : IntKind.i64.wrap ((r : Int) + 16 - 2) = (r : Int) + 14 := (IntWalk.i64_in _ (by omega)).trans (by omega)
         have v2 : IntKind.i64.wrap ((r : Int) + 16 - 16) = (r : Int) := (IntWalk.i64_in _ (by omega)).trans (by omega)
         have v3 : IntKind.i64.wrap ((r : Int) + 16 - 7) = (r : Int) + 9 := (IntWalk.i64_in _ (by omega)).trans (by omega)
         have v4 : IntKind.i64.wrap (r : Int) = (r : Int) := IntWalk.i64_in _ (by omega)
         have n0 : ((r : Int) + 1).toNat = r + 1 := by omega
         have n2 : ((r : Int)).toNat = r := by omega
         have n1 : ((r : Int) + 14).toNat = r + 14 := by omega
         have n3 : ((r : Int) + 9).toNat = r + 9 := by omega
         have n4 : ((r : Int) + 16).toNat = r + 16 := by omega
         have g0 : 0 ≤ (r : Int) + 1 ∧ (r : Int) + 1 < 64 := by omega
         have g1 : 0 ≤ (r : Int) + 14 ∧ (r : Int) + 14 < 64 := by omega
         have g2 : 0 ≤ (r : Int) ∧ (r : Int) < 64 := by omega
         have g3 : 0 ≤ (r : Int) + 9 ∧ (r : Int) + 9 < 64 := by omega
         have g4 : 0 ≤ (r : Int) + 16 ∧ (r : Int) + 16 < 64 := by omega
         go_wp2
         go_quiet (fail)
         go_wp2_with fail
         refine (Wi _ X).mono ?_
         rintro e w' ⟨rfl, rfl⟩
         go_wp2_with fail
         refine (Uj _ X).mono ?_
         rintro e w' ⟨rfl, rfl⟩
         go_wp2_with fail
         refine (Uk _ Y).mono ?_
         rintro e w' ⟨rfl, rfl⟩
         go_wp2_with fail
         refine (Ui _ Y).mono ?_
         rintro e w' ⟨rfl, rfl⟩
         go_wp2
         obtain ⟨wq, hwq⟩ := nXe (wr.drewN nq)
         have d2 : wq.cell? ⟨w.heap.size + 1, r, none⟩ = some (.int .u32 (u A)) := by rw [hwq]; exact c2
         have d3 : wq.cell? ⟨w.heap.size + 1, r + 9, none⟩ = some (.int .u32 (u C)) := by rw [hwq]; exact c3
         have ds : wq.cell? ⟨w.heap.size + 1, r + 16, none⟩ = some (.int .u32 (u 0)) := by rw [hwq]; exact cs
         have df : wq.frozen? ⟨w.heap.size + 1, r + 16, none⟩ = false := by rw [hwq]; exact cf
         have Hx3 : Hid (wq.heap[w.heap.size]? = some (.cells (part 64 []) 164 (0, 0))) := by rw [hwq]; exact Hx2
         have Hy3 : Hid (wq.heap[w.heap.size + 1]? = some (.cells (part 64 (wN b (r + 16))) 164 (0, 0))) := by rw [hwq]; exact Hy2
         have HB3 : Hid (Below w.heap.size w wq) := by rw [hwq]; exact lh (Bl.drewN HB2.out _)
         rw [← hwq]
         clear hwq c0 c1 c2 c3 cs cf Hx2 Hy2 HB2
         go_still_tail 15, (by kernel_rfl)
         clear v0 v1 v2 v3 v4 n0 n1 n2 n3 g0 g1 g2 g3
         go_wp2
         go_roundw
         case rel =>
          refine ⟨r + 1, by go_num, by omega, (AX (w := wq) (b := w.heap.size + 1) (j := r + 16) _ (by omega)).trans Hx3.out, ?_, (HB3.out.setCell (p := ⟨w.heap.size + 1, r + 16, none⟩) (by simp) _).drew⟩
          rw [show r + 1 + 16 = r + 16 + 1 by omega, wN, if_neg (by omega), Hval.out, ← part_set (by rw [BS]; omega), BS]
          exact heap_setCell_same Hy3.out _
         case measure => simp [intOf]; omega
        ·obtain rfl : r = 48 := by omega
         have hsz : (part 64 (ShaS.words b)).size = 64 := GH (by rw [DZ]; omega)
         have hy' : wr.heap[w.heap.size + 1]? = some (.cells (part 64 (ShaS.words b)) 164 (0, 0)) := hy
         have hfull : part 64 (ShaS.words b) = (wV (ShaS.words b)).toArray := part_full (DZ b)
         have Hy3 := lh hy'
         have hi : (Tryz.prog.info? 164).map (·.size) = some 64 := by kernel_rfl
         clear hlt hwl hy hy' Hy2
         generalize hP : part 64 (ShaS.words b) = p at Hy3 hsz hfull
         have hone : p.all (·.oneCell') = true := by rw [hfull]; exact wV_one _
         clear hP
         obtain ⟨Hone, Hfull⟩ := l2h hone hfull
         clear hone hfull
         go_wp2_with (first
          | refine wpList_load_row rfl _ _ rfl (w.heap.size + 1) rfl _ p (0, 0) _ Hy3.out underlying164 rfl (by rw [hsz]; exact hi) ?_
          | refine wpList_store_row rfl _ _ _ rfl w.heap.size p rfl rfl _ _ Hx2.out (by rw [hsz]; exact hi) (by rw [hsz]; exact GH (by simp)) Hone.out ?_)
         go_wp2
         refine bodyPost_ret (v := .agg p) (results_cell_row rfl _ _ w.heap.size _ p (0, 0) _ rfl (AR Hx2.out) underlying164 rfl (by rw [hsz]; exact hi)) rfl ⟨by rw [Hfull.out], AQ HB2.out nR _⟩
end ShaW
namespace ShaA
open Go Go.RowKit U32 ShaS ShaT ShaW Steps
attribute [local go_sem high] b_add IZ b_or b_and Ff b_shr3 b_shr10
structure Au (w : World) : Prop where
 k : ∀ t, t < 64 → w.cell? ⟨1, t, none⟩ = some (.int .u32 (u (kL.getD t 0)))
 b : ∀ i, i < 8 → w.cell? ⟨0, i, none⟩ = some (.int .u32 (u (Bz.getD i 0)))
theorem Au.below {w w' : World} (h : Au w) (hb : Below w.heap.size w w') : Au w' :=
 ⟨fun t ht => AB hb (h.k t ht), fun i hi => AB hb (h.b i hi)⟩
theorem Au.ext {S : Nat → Prop} {w w' : World} (h : Au w) (he : Ext S w w') (h1 : ¬ S 1) (h2 : ¬ S 0) : Au w' :=
 ⟨fun t ht => he.cellOf (h.k t ht) h1, fun i hi => he.cellOf (h.b i hi) h2⟩
theorem list8 {l : List UInt32} (h : l.length = 8) : ∃ o0 o1 o2 o3 o4 o5 o6 o7, l = [o0, o1, o2, o3, o4, o5, o6, o7] := by
 match l, h with
 | [a, b, c, d, e, f, g, h], _ => exact ⟨a, b, c, d, e, f, g, h, rfl⟩
def mixL (x y : List UInt32) (t : Nat) : List UInt32 := List.zipWith (· + ·) (x.take t) (y.take t) ++ x.drop t
theorem mix_get {x y : List UInt32} (hx : x.length = 8) (hy : y.length = 8) {t : Nat} (ht : t < 8) : (wV (mixL x y t)).toArray[t]? = some (.int .u32 (u (x.getD t 0))) := by
 unfold mixL wV
 rw [List.getElem?_toArray, List.getElem?_map, List.getElem?_append_right (by simp; omega), List.length_zipWith, List.length_take, List.length_take, hx, hy, Nat.min_eq_left (by omega : t ≤ 8), Nat.min_self, Nat.sub_self, List.getElem?_drop, Nat.add_zero, List.getElem?_eq_getElem (by omega), List.getD_eq_getElem?_getD, List.getElem?_eq_getElem (by omega)]
 rfl
theorem mix_set {x y : List UInt32} (hx : x.length = 8) (hy : y.length = 8) {t : Nat} (ht : t < 8) : (wV (mixL x y t)).toArray.setIfInBounds t (.int .u32 (u (x.getD t 0 + y.getD t 0))) = (wV (mixL x y (t + 1))).toArray := by
 obtain ⟨a0, a1, a2, a3, a4, a5, a6, a7, rfl⟩ := list8 hx
 obtain ⟨b0, b1, b2, b3, b4, b5, b6, b7, rfl⟩ := list8 hy
 have : t = 0 ∨ t = 1 ∨ t = 2 ∨ t = 3 ∨ t = 4 ∨ t = 5 ∨ t = 6 ∨ t = 7 := by omega
 rcases this with rfl | rfl | rfl | rfl | rfl | rfl | rfl | rfl <;> rfl
theorem mix_zero (x y : List UInt32) : mixL x y 0 = x := by simp [mixL]
theorem mix_full {x y : List UInt32} (hx : x.length = 8) (hy : y.length = 8) : mixL x y 8 = List.zipWith (· + ·) x y := by
 unfold mixL
 rw [List.take_of_length_le (by omega), List.take_of_length_le (by omega), List.drop_of_length_le (by omega), List.append_nil]
theorem En {x : List UInt32} {t : Nat} (ht : t < x.length) : (wV x).toArray[t]? = some (.int .u32 (u (x.getD t 0))) := by
 unfold wV
 rw [List.getElem?_toArray, List.getElem?_map, List.getElem?_eq_getElem ht, List.getD_eq_getElem?_getD, List.getElem?_eq_getElem ht]
 rfl
theorem turns (w : World) (x : UInt32) (n : Int) (h : n = 2 ∨ n = 6 ∨ n = 11 ∨ n = 13 ∨ n = 22 ∨ n = 25) : Calls Tryz.prog 106 #[.int .u32 (u x), .int .i64 n] w fun e w' => e = .returned (.int .u32 (u (rotr x n.toNat))) ∧ w' = w := by
 rcases h with rfl | rfl | rfl | rfl | rfl | rfl
 ·exact (Wl w x).mono fun _ _ ⟨h1, h2⟩ => ⟨h1, h2.symm⟩
 ·exact (Wj w x).mono fun _ _ ⟨h1, h2⟩ => ⟨h1, h2.symm⟩
 ·exact (Um w x).mono fun _ _ ⟨h1, h2⟩ => ⟨h1, h2.symm⟩
 ·exact (Ul w x).mono fun _ _ ⟨h1, h2⟩ => ⟨h1, h2.symm⟩
 ·exact (Uh w x).mono fun _ _ ⟨h1, h2⟩ => ⟨h1, h2.symm⟩
 ·exact (Ug w x).mono fun _ _ ⟨h1, h2⟩ => ⟨h1, h2.symm⟩
def Vq (w : World) (vb : Nat) (x : List UInt32) (b : List UInt8) (e : Ending) (w' : World) : Prop :=
 e = .returned (.tuple #[]) ∧ w'.heap[vb]? = some (.cells (wV (addB x b)).toArray 142 (0, 0)) ∧ Ext (fun k => k = vb) w w'
theorem UQ (w : World) (vb : Nat) (x : List UInt32) (hx8 : x.length = 8) (hvb : w.heap[vb]? = some (.cells (wV x).toArray 142 (0, 0))) (v : Value) (b : List UInt8) (hb : b.length = 64) (hv : Sl w v 1 64 (byV b)) (hk : Au w) :
 Calls Tryz.prog 86 #[.pointer (some ⟨vb, 0, none⟩), v] w (Vq w vb x b) := by
 obtain ⟨o0, o1, o2, o3, o4, o5, o6, o7, rfl⟩ := list8 hx8
 have hW := fun W hW => words_ok W v b hb hW
 obtain ⟨ws, hws⟩ := nXe (ShaS.words b)
 have hwl : ws.length = 64 := by rw [hws]; exact DZ b
 have hadd : addB [o0, o1, o2, o3, o4, o5, o6, o7] b = mixL [o0, o1, o2, o3, o4, o5, o6, o7] (Cv [o0, o1, o2, o3, o4, o5, o6, o7] ws 64) 8 := by
  rw [mix_full hx8 (Br hx8 ws 64), hws]
  rfl
 have Hadd := lh hadd
 rw [← hws] at hW
 obtain ⟨HWd, Hv, Hk⟩ := l3h hW hv hk
 have hvl := AJ hvb
 have Hvb := lh hvb
 have hsz : (wV ws).toArray.size = 64 := by simp [wV_length, hwl]
 have hone := wV_one ws
 obtain ⟨p, hp⟩ := nXe ((wV ws).toArray)
 rw [← hp] at hsz hone HWd
 obtain ⟨Hp, Hone⟩ := l2h hp hone
 have hi : (Tryz.prog.info? 164).map (·.size) = some 64 := by kernel_rfl
 obtain ⟨Hi, Hsz⟩ := l2h hi hsz
 clear hadd hW hv hk hvb hws hp hone hi hsz
 go_enter func86, ntmps86
 go_wp2_with fail
 refine (HWd.out w Hv.out).mono ?_
 rintro e w1 ⟨rfl, hb1⟩
 have Yd := (hb1.block _ hvl).trans Hvb.out
 obtain ⟨HB1, HK1⟩ := l2h hb1 (Hk.out.below hb1)
 clear hb1
 go_wp2_with (refine AC rfl _ _ _ rfl w1.heap.size p rfl rfl _ _ (AL w1 (.cells zL4 164)) (by rw [Hsz.out]; exact Hi.out) (by rw [Hsz.out]; rfl) Hone.out ?go)
 case go =>
  intro W2 HW2
  have hW2 := HW2.out
  clear HW2
  have hb2 : Below w.heap.size w W2 := by rw [hW2]; exact AQ (HB1.out.alloc HB1.out.size _) HB1.out.size _
  have hw2 : W2.heap[w1.heap.size]? = some (.cells p 164 (0, 0)) := by rw [hW2]; exact AR (AL w1 _)
  have hv2 : W2.heap[vb]? = some (.cells (wV [o0, o1, o2, o3, o4, o5, o6, o7]).toArray 142 (0, 0)) := (hb2.block _ hvl).trans Hvb.out
  have hwne : ¬ vb = w1.heap.size := by have := AJ Yd; omega
  obtain ⟨Hw2, Hv2, HB2, HK2⟩ := l4h hw2 hv2 hb2 (Hk.out.below hb2)
  have hvl2 := AJ hv2
  have aQ := AJ hw2
  have hvw := HB1.out.size
  clear hW2 hb2 hw2 Yd
  have hrow : W2.heap[vb]? = some (.cells #[.int .u32 (u o0), .int .u32 (u o1), .int .u32 (u o2), .int .u32 (u o3), .int .u32 (u o4), .int .u32 (u o5), .int .u32 (u o6), .int .u32 (u o7)] 142 (0, 0)) := hv2
  obtain ⟨hcv, hfv⟩ := AA hrow
  clear hv2 hrow
  go_wp2
  go_loopw [17] (fun i wr => ∃ t : Nat, i = .int .i64 t ∧ t ≤ 64 ∧ wr.heap[W2.heap.size]? = some (.cells (wV (Cv [o0, o1, o2, o3, o4, o5, o6, o7] ws t)).toArray 142 (0, 0)) ∧ wr.heap[w1.heap.size]? = some (.cells p 164 (0, 0)) ∧ wr.heap[vb]? = some (.cells (wV [o0, o1, o2, o3, o4, o5, o6, o7]).toArray 142 (0, 0)) ∧ Below w.heap.size w wr) (fun i _ => 64 - (intOf i).toNat)
  case atStart => exact ⟨0, rfl, by omega, AL W2 _, Ak Hw2.out _, Ak Hv2.out _, HB2.out.alloc HB2.out.size _⟩
  case round =>
   obtain ⟨t, rfl, ht, hx, hw, hvv, hb3⟩ := hrel
   clear hcv hfv
   obtain ⟨x0, x1, x2, x3, x4, x5, x6, x7, hxx⟩ := list8 (Br hx8 ws t)
   rw [hxx] at hx
   have hxr : wr.heap[W2.heap.size]? = some (.cells #[.int .u32 (u x0), .int .u32 (u x1), .int .u32 (u x2), .int .u32 (u x3), .int .u32 (u x4), .int .u32 (u x5), .int .u32 (u x6), .int .u32 (u x7)] 142 (0, 0)) := hx
   obtain ⟨HXX, Hx, Hw, Hvv, HB3⟩ := l5h hxx hx hw hvv hb3
   have hxl := AJ hx
   have hHK := Hk.out.below hb3
   obtain ⟨hcx, hfx⟩ := AA hxr
   by_cases hlt : t < 64
   ·obtain ⟨wt, hwt⟩ := nXe (ws.getD t 0)
    obtain ⟨kt, hkt⟩ := nXe (kL.getD t 0)
    have hcw : wr.cell? ⟨w1.heap.size, t, none⟩ = some (.int .u32 (u wt)) := by rw [AO hw, Hp.out, En (by omega), hwt]
    have hck : wr.cell? ⟨1, t, none⟩ = some (.int .u32 (u kt)) := by rw [hHK.k t hlt, hkt]
    obtain ⟨Hwt, Hkt, HK3⟩ := l3h hwt hkt hHK
    clear hxx hx hw hvv hb3 hxr hwt hkt hHK
    have g2 : 0 ≤ (t : Int) ∧ (t : Int) < 64 := by omega
    have n2 : (t : Int).toNat = t := by omega
    go_wp2
    go_quiet ((go_at_call 106; exact Calls.quiet_of_same (turns _ _ _ (by omega))))
    obtain ⟨wa, hwa⟩ := nXe (wr.drewN nq)
    rw [← hwa]
    have HXa : Hid (wa.heap[W2.heap.size]? = some (.cells #[.int .u32 (u x0), .int .u32 (u x1), .int .u32 (u x2), .int .u32 (u x3), .int .u32 (u x4), .int .u32 (u x5), .int .u32 (u x6), .int .u32 (u x7)] 142 (0, 0))) := by rw [hwa]; exact Hx
    have Hwa : Hid (wa.heap[w1.heap.size]? = some (.cells p 164 (0, 0))) := by rw [hwa]; exact Hw
    have Hva : Hid (wa.heap[vb]? = some (.cells (wV [o0, o1, o2, o3, o4, o5, o6, o7]).toArray 142 (0, 0))) := by rw [hwa]; exact Hvv
    have HBa : Hid (Below w.heap.size w wa) := by rw [hwa]; exact lh (Bl.drewN HB3.out _)
    have hxla := AJ HXa.out
    clear hwa hcx hfx hcw hck Hx Hw Hvv HB3 HK3
    obtain ⟨hcx, hfx⟩ := AA HXa.out
    go_wp2
    go_quiet ((go_at_call 106; exact Calls.quiet_of_same (turns _ _ _ (by omega))))
    obtain ⟨wb, hwb⟩ := nXe (wa.drewN nq)
    rw [← hwb]
    have HXb : Hid (wb.heap[W2.heap.size]? = some (.cells #[.int .u32 (u x0), .int .u32 (u x1), .int .u32 (u x2), .int .u32 (u x3), .int .u32 (u x4), .int .u32 (u x5), .int .u32 (u x6), .int .u32 (u x7)] 142 (0, 0))) := by rw [hwb]; exact HXa
    have Hwb : Hid (wb.heap[w1.heap.size]? = some (.cells p 164 (0, 0))) := by rw [hwb]; exact Hwa
    have Hvb' : Hid (wb.heap[vb]? = some (.cells (wV [o0, o1, o2, o3, o4, o5, o6, o7]).toArray 142 (0, 0))) := by rw [hwb]; exact Hva
    have HBb : Hid (Below w.heap.size w wb) := by rw [hwb]; exact lh (Bl.drewN HBa.out _)
    have hxlb := AJ HXb.out
    clear hwb hcx hfx HXa Hwa Hva HBa
    obtain ⟨hcx, hfx⟩ := AA HXb.out
    go_wp2
    go_still_tail 2, (by kernel_rfl)
    refine wpList_copy_splice rfl _ _ _ _ rfl 140 underlying167 (by kernel_rfl) (some ⟨W2.heap.size, 1, none⟩) (some ⟨W2.heap.size, 0, none⟩) 7 7 7 8 rfl rfl W2.heap.size 1 [.int .u32 (u x0), .int .u32 (u x1), .int .u32 (u x2), .int .u32 (u x3), .int .u32 (u x4), .int .u32 (u x5), .int .u32 (u x6), .int .u32 (u x7)] _ HXb.out [.int .u32 (u x0), .int .u32 (u x1), .int .u32 (u x2), .int .u32 (u x3), .int .u32 (u x4), .int .u32 (u x5), .int .u32 (u x6)] rfl ?hpos (by simp) (by simp [Value.oneCell']) W2.heap.size wb ((Below.refl _ wb).drew) nR ?go
    case hpos =>
         refine fun _ => ⟨rfl, _, rfl, fun j v hj => ?_⟩
         rw [Addr.add_mid, Nat.zero_add]
         have hj7 : j < 7 := by simpa using (List.getElem?_eq_some_iff.1 hj).1
         obtain rfl | rfl | rfl | rfl | rfl | rfl | rfl : j = 0 ∨ j = 1 ∨ j = 2 ∨ j = 3 ∨ j = 4 ∨ j = 5 ∨ j = 6 := by omega
         all_goals (simp at hj; subst hj; exact AO HXb.out)
    case go =>
         intro wc hsp hbel
         have HXc : Hid (wc.heap[W2.heap.size]? = some (.cells #[.int .u32 (u x0), .int .u32 (u x0), .int .u32 (u x1), .int .u32 (u x2), .int .u32 (u x3), .int .u32 (u x4), .int .u32 (u x5), .int .u32 (u x6)] 142 (0, 0))) := hsp
         obtain ⟨Hwc, Hvc⟩ := l2h ((hbel.block _ aQ).trans Hwb.out) ((hbel.block _ hvl2).trans Hvb'.out)
         have HBc : Hid (Below w.heap.size w wc) := lh (HBb.out.trans (hbel.mono (by omega)))
         have fI := AJ HXc.out
         clear hsp hbel hcx hfx HXb Hwb Hvb' HBb
         obtain ⟨hcx, hfx⟩ := AA HXc.out
         have hstep : Cv [o0, o1, o2, o3, o4, o5, o6, o7] ws (t + 1) = [x7 + (rotr x4 6 ^^^ rotr x4 11 ^^^ rotr x4 25) + (x4 &&& x5 ^^^ ~~~x4 &&& x6) + kt + wt + ((rotr x0 2 ^^^ rotr x0 13 ^^^ rotr x0 22) + (x0 &&& x1 ^^^ x0 &&& x2 ^^^ x1 &&& x2)), x0, x1, x2, x3 + (x7 + (rotr x4 6 ^^^ rotr x4 11 ^^^ rotr x4 25) + (x4 &&& x5 ^^^ ~~~x4 &&& x6) + kt + wt), x4, x5, x6] := by
          rw [Cv, HXX.out, Hwt.out, Hkt.out]
          rfl
         have Hstep := lh hstep
         clear hstep
         go_wp2
         go_roundw
         case rel =>
          refine ⟨t + 1, by go_num, by omega, ?_, ?_, ?_, ?_⟩
          ·rw [Hstep.out]
           exact heap_setCell_same (heap_setCell_same HXc.out _) _
          ·exact (AX _ (by omega)).trans ((AX _ (by omega)).trans Hwc.out)
          ·exact (AX _ (by omega)).trans ((AX _ (by omega)).trans Hvc.out)
          ·exact ((HBc.out.setCell (p := ⟨W2.heap.size, 0, none⟩) (by simp; omega) _).setCell (p := ⟨W2.heap.size, 4, none⟩) (by simp; omega) _)
         case measure => simp [intOf]; omega
   ·obtain rfl : t = 64 := by omega
    clear hlt hcx hfx hx hw hvv hb3 hHK
    have hy8 := Br hx8 ws 64
    obtain ⟨yy, hyy⟩ := nXe (Cv [o0, o1, o2, o3, o4, o5, o6, o7] ws 64)
    obtain ⟨xx, hx8', hxe⟩ : ∃ xx : List UInt32, xx.length = 8 ∧ xx = [o0, o1, o2, o3, o4, o5, o6, o7] := ⟨_, hx8, rfl⟩
    rw [← hxx, ← hyy] at Hx
    rw [← hyy] at hy8 Hadd
    rw [← hxe] at Hvv Hadd ⊢
    have hvr := Hvv.out
    have hyr := Hx.out
    have fJ := AJ hvr
    have Hxe := lh hxe
    clear hxx hyy hxe HXX Hvb Hv2 hx8 HWd
    go_wp2
    obtain ⟨wo, rfl⟩ : ∃ wo : World, wo = wr := ⟨_, rfl⟩
    rw [show ((64 : Nat) : Int) = 64 from rfl]
    go_loopw [91] (fun i wq => ∃ s : Nat, i = .int .i64 s ∧ s ≤ 8 ∧ wq.heap[vb]? = some (.cells (wV (mixL xx yy s)).toArray 142 (0, 0)) ∧ wq.heap[W2.heap.size]? = some (.cells (wV yy).toArray 142 (0, 0)) ∧ Ext (fun k => k = vb) w wq) (fun i _ => 8 - (intOf i).toNat)
    case atStart => exact ⟨0, rfl, by omega, by rw [mix_zero]; exact hvr, hyr, ⟨HB3.out.os, HB3.out.tape, HB3.out.output, HB3.out.size, fun k hk _ => HB3.out.block k hk⟩⟩
    case round =>
         obtain ⟨s, rfl, hs, hv4, hy4, hE4⟩ := hrel
         clear hvr hyr
         obtain ⟨HV4, HY4, HE4⟩ := l3h hv4 hy4 hE4
         have hvl4 := AJ hv4
         have hyl4 := AJ hy4
         by_cases hls : s < 8
         ·obtain ⟨a, ha⟩ := nXe (xx.getD s 0)
          obtain ⟨c, hc⟩ := nXe (yy.getD s 0)
          have c0 : wr.cell? ⟨vb, s, none⟩ = some (.int .u32 (u a)) := by rw [AO hv4, mix_get hx8' hy8 hls, ha]
          have c1 : wr.cell? ⟨W2.heap.size, s, none⟩ = some (.int .u32 (u c)) := by rw [AO hy4, En (by omega), hc]
          have cf : wr.frozen? ⟨vb, s, none⟩ = false := BK hv4
          obtain ⟨Ha, Hc⟩ := l2h ha hc
          clear hv4 hy4 hE4 ha hc
          have g2 : 0 ≤ (s : Int) ∧ (s : Int) < 8 := by omega
          have n2 : (s : Int).toNat = s := by omega
          go_wp2
          go_still_tail 11, (by kernel_rfl)
          clear g2 n2
          go_wp2
          go_roundw
          case rel =>
           refine ⟨s + 1, by go_num, by omega, ?_, ?_, ?_⟩
           ·rw [← mix_set hx8' hy8 hls, ← Ha.out, ← Hc.out]
            exact heap_setCell_same HV4.out _
           ·exact (AX _ (by omega)).trans HY4.out
           ·exact (HE4.out.setCell (p := ⟨vb, s, none⟩) (.inl rfl) _).drew
          case measure => simp [intOf]; omega
         ·obtain rfl : s = 8 := by omega
          go_wp2
          go_end0
          exact ⟨rfl, by rw [← Hxe.out, Hadd.out]; exact HV4.out, HE4.out⟩
end ShaA
namespace ShaB
open Go Go.RowKit U32 ShaS ShaW ShaA Steps
def pB (n : Nat) (l : List UInt8) : Array Value := (byV (l ++ List.replicate (n - l.length) 0)).toArray
theorem IK {n : Nat} {l : List UInt8} (h : l.length ≤ n) : (pB n l).size = n := by simp [pB, byV]; omega
theorem IL {n : Nat} {l : List UInt8} {i : Nat} (h : l.length ≤ i) (hn : i < n) : (pB n l)[i]? = some (.int .u8 0) := by
 simp only [pB, byV, List.getElem?_toArray, List.getElem?_map]
 rw [List.getElem?_append_right h, List.getElem?_replicate, if_pos (by omega)]
 rfl
theorem pB_set {n : Nat} {l : List UInt8} (h : l.length < n) (x : UInt8) : (pB n l).setIfInBounds l.length (.int .u8 (x.toNat : Int)) = pB n (l ++ [x]) := by
 unfold pB byV
 rw [List.setIfInBounds_toArray]
 congr 1
 have e : n - l.length = (n - (l ++ [x]).length) + 1 := by simp; omega
 rw [e, List.replicate_succ]
 simp only [List.map_append, List.map_cons, List.append_assoc, List.singleton_append]
 rw [List.set_append_right _ _ (by simp)]
 simp
theorem Uw {n : Nat} {l : List UInt8} (h : l.length = n) : pB n l = (byV l).toArray := by
 unfold pB
 rw [h, Nat.sub_self]
 simp
theorem pB_one (n : Nat) (l : List UInt8) : (pB n l).all (·.oneCell') = true := by simp [pB, byV, Value.oneCell']
theorem byte_of (x : UInt32) (d : Nat) : u x / (d : Int) % 256 = ((UInt8.ofNat (x.toNat / d)).toNat : Int) := by
 have h : (UInt8.ofNat (x.toNat / d)).toNat = x.toNat / d % 256 := rfl
 rw [h, u, Int.natCast_emod, Int.natCast_ediv]
 rfl
theorem VO {y : List UInt32} {t : Nat} (ht : t < y.length) : (y.take (t + 1)).flatMap be = (((((y.take t).flatMap be ++ [UInt8.ofNat ((y.getD t 0).toNat / 16777216)]) ++ [UInt8.ofNat ((y.getD t 0).toNat / 65536)]) ++ [UInt8.ofNat ((y.getD t 0).toNat / 256)]) ++ [UInt8.ofNat (y.getD t 0).toNat]) := by
 rw [List.take_succ_eq_append_getElem ht, List.flatMap_append, List.getD_eq_getElem?_getD, List.getElem?_eq_getElem ht]
 simp [be]
theorem Tk : ∀ (l : List UInt32), (l.flatMap be).length = 4 * l.length
 | [] => rfl
 | a :: l => by rw [List.flatMap_cons, List.length_append, Tk l, List.length_cons]; simp only [be, List.length_cons, List.length_nil]; omega
theorem aL {w : World} {g n m : Nat} {l : List UInt8} {t : TypeId} (h : w.heap[g]? = some (.cells (pB n l) t (0, 0))) (hl : l.length + 4 ≤ n) (hm : l.length = m) (b0 b1 b2 b3 : UInt8) :
 ((((w.setCell ⟨g, m, none⟩ (.int .u8 (b0.toNat : Int))).setCell ⟨g, m + 1, none⟩ (.int .u8 (b1.toNat : Int))).setCell ⟨g, m + 2, none⟩ (.int .u8 (b2.toNat : Int))).setCell ⟨g, m + 3, none⟩ (.int .u8 (b3.toNat : Int))).heap[g]? = some (.cells (pB n ((((l ++ [b0]) ++ [b1]) ++ [b2]) ++ [b3])) t (0, 0)) := by
 subst hm
 rw [← pB_set (l := ((l ++ [b0]) ++ [b1]) ++ [b2]) (by simp; omega), ← pB_set (l := (l ++ [b0]) ++ [b1]) (by simp; omega), ← pB_set (l := l ++ [b0]) (by simp; omega), ← pB_set (l := l) (by omega)]
 have e1 : (l ++ [b0]).length = l.length + 1 := by simp
 have e2 : ((l ++ [b0]) ++ [b1]).length = l.length + 2 := by simp
 have e3 : (((l ++ [b0]) ++ [b1]) ++ [b2]).length = l.length + 3 := by simp
 rw [e1, e2, e3]
 exact heap_setCell_same (heap_setCell_same (heap_setCell_same (heap_setCell_same h _) _) _) _
theorem UL (w : World) (vb : Nat) (y : List UInt32) (hy8 : y.length = 8) (hvb : w.heap[vb]? = some (.cells (wV y).toArray 142 (0, 0))) :
 Calls Tryz.prog 88 #[.pointer (some ⟨vb, 0, none⟩)] w fun e w' => e = .returned (.agg (byV (y.flatMap be)).toArray) ∧ Below w.heap.size w w' := by
 have hvl := AJ hvb
 have Hvb := lh hvb
 obtain ⟨W0, hW0⟩ := nXe ((w.alloc (.cells zl0 44)).alloc (.cells zl0 44))
 have hz : (zl0 : Array Value) = pB 32 [] := by kernel_rfl
 have hB0 : Below w.heap.size w W0 := by rw [hW0]; exact ((Below.refl _ w).alloc nR _).alloc (by simp) _
 have hx0 : W0.heap[w.heap.size]? = some (.cells (pB 32 []) 44 (0, 0)) := by rw [hW0, hz]; exact Ak (AL _ _) _
 have hy0 : W0.heap[w.heap.size + 1]? = some (.cells (pB 32 []) 44 (0, 0)) := by rw [hW0, hz]; exact Ad _ (by simp)
 obtain ⟨HB0, HW0⟩ := l2h hB0 hW0
 have hi : (Tryz.prog.info? 44).map (·.size) = some 32 := by kernel_rfl
 have Hi := lh hi
 clear hB0 hW0 hz hvb hi
 go_enter func88, ntmps88
 go_wp2
 go_loopw [7] (fun i wr => ∃ t : Nat, i = .int .i64 t ∧ t ≤ 8 ∧ wr.heap[w.heap.size]? = some (.cells (pB 32 []) 44 (0, 0)) ∧ wr.heap[w.heap.size + 1]? = some (.cells (pB 32 ((y.take t).flatMap be)) 44 (0, 0)) ∧ Below w.heap.size w wr) (fun i _ => 8 - (intOf i).toNat)
 case atStart =>
  rw [← HW0.out]
  exact ⟨0, rfl, by omega, hx0, hy0, HB0.out⟩
 case round =>
  obtain ⟨t, rfl, ht, hx, hy, hb2⟩ := hrel
  clear hx0 hy0
  have hll : ((y.take t).flatMap be).length = 4 * t := by rw [Tk, List.length_take, hy8]; omega
  have hvv := (hb2.block _ hvl).trans Hvb.out
  obtain ⟨Hx, Hy, HB⟩ := l3h hx hy hb2
  have hyl := AJ hy
  have Hll := lh hll
  clear hx hb2
  by_cases hlt : t < 8
  ·obtain ⟨x, hxx⟩ := nXe (y.getD t 0)
   have cv : wr.cell? ⟨vb, t, none⟩ = some (.int .u32 (u x)) := by rw [AO hvv, En (by omega), hxx]
   have Tt := VO (y := y) (t := t) (by omega)
   rw [← hxx] at Tt
   have ZJ := lh Tt
   have f0 : wr.frozen? ⟨w.heap.size + 1, 4 * t, none⟩ = false := BK hy
   have f1 : wr.frozen? ⟨w.heap.size + 1, 4 * t + 1, none⟩ = false := BK hy
   have f2 : wr.frozen? ⟨w.heap.size + 1, 4 * t + 2, none⟩ = false := BK hy
   have f3 : wr.frozen? ⟨w.heap.size + 1, 4 * t + 3, none⟩ = false := BK hy
   have c0 : wr.cell? ⟨w.heap.size + 1, 4 * t, none⟩ = some (.int .u8 0) := by rw [AO hy]; exact IL (by omega) (by omega)
   have c1 : wr.cell? ⟨w.heap.size + 1, 4 * t + 1, none⟩ = some (.int .u8 0) := by rw [AO hy]; exact IL (by omega) (by omega)
   have c2 : wr.cell? ⟨w.heap.size + 1, 4 * t + 2, none⟩ = some (.int .u8 0) := by rw [AO hy]; exact IL (by omega) (by omega)
   have c3 : wr.cell? ⟨w.heap.size + 1, 4 * t + 3, none⟩ = some (.int .u8 0) := by rw [AO hy]; exact IL (by omega) (by omega)
   have k0 := byte_of x 16777216
   have k1 := byte_of x 65536
   have k2 := byte_of x 256
   obtain ⟨K0, K1, K2⟩ := l3h k0 k1 k2
   have hu0 := u_ge x
   have hu1 := u_lt x
   have K3 : Hid (u x % 256 = ((UInt8.ofNat x.toNat).toNat : Int)) := by
        refine lh ?_
        have : (UInt8.ofNat x.toNat).toNat = x.toNat % 256 := rfl
        rw [this]
        unfold u
        omega
   have K0' : Hid (u x / 16777216 = ((UInt8.ofNat (x.toNat / 16777216)).toNat : Int)) := by
        refine lh ?_
        have this : u x / 16777216 % 256 = ((UInt8.ofNat (x.toNat / 16777216)).toNat : Int) := K0.out
        rw [← this]
        omega
   have g2 : 0 ≤ (t : Int) ∧ (t : Int) < 8 := by omega
   have n2 : (t : Int).toNat = t := by omega
   clear hy hvv hxx Tt hll k0 k1 k2
   go_wp2
   go_quiet (fail)
   clear g2 n2
   go_wp2
   go_roundw
   case rel =>
        refine ⟨t + 1, by go_num, by omega, ?_, ?_, ?_⟩
        ·exact (AX _ (by omega)).trans ((AX _ (by omega)).trans ((AX _ (by omega)).trans ((AX _ (by omega)).trans Hx.out)))
        ·rw [ZJ.out]
         have e1 : u x / 65536 % 256 = ((UInt8.ofNat (x.toNat / 65536)).toNat : Int) := K1.out
         have e2 : u x / 256 % 256 = ((UInt8.ofNat (x.toNat / 256)).toNat : Int) := K2.out
         rw [K0'.out, e1, e2, K3.out]
         exact aL (w := wr.drewN nq) Hy.out (by rw [Hll.out]; omega) Hll.out _ _ _ _
        ·exact ((((Bl.drewN HB.out nq).setCell (p := ⟨w.heap.size + 1, 4 * t, none⟩) (by simp) _).setCell (p := ⟨w.heap.size + 1, 4 * t + 1, none⟩) (by simp) _).setCell (p := ⟨w.heap.size + 1, 4 * t + 2, none⟩) (by simp) _).setCell (p := ⟨w.heap.size + 1, 4 * t + 3, none⟩) (by simp) _
   case measure => simp [intOf]; omega
  ·obtain rfl : t = 8 := by omega
   have hfull : pB 32 ((y.take 8).flatMap be) = (byV (y.flatMap be)).toArray := by
        rw [Uw (by rw [hll]), List.take_of_length_le (by omega)]
   have hsz : (pB 32 ((y.take 8).flatMap be)).size = 32 := IK (by omega)
   have hone := pB_one 32 ((y.take 8).flatMap be)
   generalize pB 32 ((y.take 8).flatMap be) = p at Hy hsz hfull hone
   obtain ⟨Hone, Hfull⟩ := l2h hone hfull
   clear hy hvv hll Hll hone hfull
   go_wp2_with (first
        | refine wpList_load_row rfl _ _ rfl (w.heap.size + 1) rfl _ p (0, 0) _ Hy.out underlying44 rfl (by rw [hsz]; exact Hi.out) ?_
        | refine wpList_store_row rfl _ _ _ rfl w.heap.size p rfl rfl _ _ Hx.out (by rw [hsz]; exact Hi.out) (by rw [hsz]; exact IK (by simp)) Hone.out ?_)
   go_wp2
   refine bodyPost_ret (v := .agg p) (results_cell_row rfl _ _ w.heap.size _ p (0, 0) _ rfl (AR Hx.out) underlying44 rfl (by rw [hsz]; exact Hi.out)) rfl ⟨by rw [Hfull.out], AQ HB.out nR _⟩
end ShaB
namespace ShaF
open Go Go.RowKit U32 ShaS OctP Steps
def zs (n : Nat) : Nat := (119 - n % 64) % 64
theorem fill_eq (n : Nat) : fill n = ([0x80] ++ List.replicate (zs n) 0) ++ (List.range 8).map fun i => UInt8.ofNat (n * 8 / 2 ^ (56 - 8 * i)) := by
 unfold fill zs
 simp
def lenOf : Value → Nat
 | .slice _ l _ => l
 | _ => 0
theorem VU (w : World) (s : ByteArray) (n : Nat) (hs : s.size < 64) (hn : n ≤ 140737488355328) (hm : s.size % 64 = n % 64) :
 Calls Tryz.prog 87 #[.string s, .int .i64 n] w fun e w' => ∃ v', e = .returned v' ∧ OwB w' w.heap.size v' (bl s ++ fill n) ∧ Below w.heap.size w w' := by
 have ho := Ex w (base := w.heap.size) 5 s (by unfold maxLen; omega) nR
 have hbel := Dn w 5 s
 obtain ⟨W1, hW1⟩ := nXe (Go.Lib.bytesWorld w 5 s)
 rw [← hW1] at ho hbel
 have hcv := Go.Lib.run_convert_string_bytes (P := Tryz.prog) w 9 100 5 s (u := .string) underlying9 underlying100 underlying5
 obtain ⟨cp, hcp⟩ := nXe (grownCap w s.size 0 5)
 rw [← hW1] at hcv
 rw [← hcp] at hcv ho
 have hz1 := hbel.size
 obtain ⟨HO, HBel, Hm⟩ := l3h ho hbel hm
 have hzs : zs n ≤ 63 := by unfold zs; omega
 have hzs2 : (s.size + 1 + zs n) % 64 = 56 := by unfold zs; omega
 have Hz2 := lh hzs2
 obtain ⟨L1, hL1⟩ := nXe (bl s ++ [0x80])
 have hl2 : s.size + 1 = L1.length := by rw [hL1, List.length_append, AP]; rfl
 have hl3 : L1.length ≤ s.size + 1 := by omega
 have hl4 : s.size + 1 ≤ L1.length := by omega
 obtain ⟨HL1, Hl2⟩ := l2h hL1 hl2
 clear ho hbel hW1 hcp hm hzs2 hL1 hl2
 go_enter func87, ntmps87
 go_wp2_with (at_builtin; go_must (refine Al _ rfl _ _ _ _ rfl A8 w.heap.size (.slice (some ⟨w.heap.size, 0, none⟩) s.size cp) s.size (byV s.data.toList) rfl ?own (.slice (some ⟨W1.heap.size, 0, none⟩) 1 1) 1 [.int .u8 128] rfl ?src L1.length Hl2.out (byV L1) ?hz ?h63 ?hby ?hba ?go))
 case own => exact HO.out.ext ((Ext.refl (fun _ => False) _).alloc _) (fun _ _ h => h)
 case src => exact CJ underlying100 rfl
 case hz => rw [HL1.out, Ao]; rfl
 case h63 => unfold maxLen; omega
 case hby => omega
 case hba => simp; omega
 case go =>
  intro a2 c2 w2 hown hgrow _
  have HO2 := lh hown.bytes
  have HB2 := lh (Bl.grown (HBel.out.alloc hz1 _) hgrow (fun k hk => by simp [Value.ownBlock] at hk; omega))
  clear hown hgrow hcv
  go_wp2
  go_loopw [5] (fun x wr => ∃ (v : Value) (lb : List UInt8) (j : Nat), x = v ∧ j ≤ zs n ∧ lb = L1 ++ List.replicate j 0 ∧ OwB wr w.heap.size v lb ∧ Below w.heap.size w wr) (fun x _ => s.size + 1 + zs n - lenOf x)
  case atStart => exact ⟨_, L1, 0, rfl, by omega, by simp, HO2.out, HB2.out⟩
  case round =>
   obtain ⟨v, lb, j, rfl, hj, hlb, hov, hbv⟩ := hrel
   obtain ⟨a3, c3, rfl, _, _⟩ := hov.form
   have hll : lb.length = L1.length + j := by rw [hlb, List.length_append, List.length_replicate]
   have hll1 : lb.length ≤ s.size + 1 + j := by omega
   have hll2 : s.size + 1 + j ≤ lb.length := by omega
   obtain ⟨HOv, HBv, Hlb⟩ := l3h hov hbv hlb
   have hzr := hbv.size
   clear hov hbv hlb hll
   by_cases hlt : j < zs n
   ·have hne : (((lb.length : Int) % 64) != 56) = true := by
         have := Hz2.out
         simp only [bne_iff_ne]
         omega
    obtain ⟨L5, hL5⟩ := nXe (lb ++ [0])
    have hl5 : lb.length + 1 = L5.length := by rw [hL5, List.length_append]; rfl
    have hl6 : L5.length ≤ lb.length + 1 := by omega
    have hl7 : lb.length + 1 ≤ L5.length := by omega
    obtain ⟨HL5, Hl5⟩ := l2h hL5 hl5
    clear hL5 hl5
    go_wp2_with (at_builtin; go_must (refine Al _ rfl _ _ _ _ rfl A8 w.heap.size (.slice a3 lb.length c3) lb.length (byV lb) rfl ?own (.slice (some ⟨wr.heap.size, 0, none⟩) 1 1) 1 [.int .u8 0] rfl ?src L5.length Hl5.out (byV L5) ?hz ?h63 ?hby ?hba ?go))
    case own => exact HOv.out.ext ((Ext.refl (fun _ => False) _).alloc _) (fun _ _ h => h)
    case src => exact CJ underlying100 rfl
    case hz => rw [HL5.out, Ao]; rfl
    case h63 => unfold maxLen; omega
    case hby => omega
    case hba => simp; omega
    case go =>
         intro a4 c4 w4 hown hgrow _
         have HO4 := lh hown.bytes
         have HB4 := lh (Bl.grown (HBv.out.alloc hzr _) hgrow (fun k hk => (HOv.out.lt k hk).1))
         clear hown hgrow
         go_wp2
         go_roundw
         case rel =>
          refine ⟨_, L5, j + 1, rfl, by omega, ?_, HO4.out, HB4.out⟩
          rw [HL5.out, Hlb.out, List.replicate_succ']
          simp
         case measure => simp [lenOf]; omega
   ·obtain rfl : j = zs n := by omega
    have hne : (((lb.length : Int) % 64) != 56) = false := by
         have := Hz2.out
         simp only [bne_eq_false_iff_eq]
         omega
    obtain ⟨X, hX⟩ : ∃ X : Int, X = (n : Int) * 8 := ⟨_, rfl⟩
    have hX0 : 0 ≤ X := by omega
    have hX1 : X ≤ 1125899906842624 := by omega
    have HX := lh hX
    go_wp2
    rw [← hX]
    clear hX
    obtain ⟨wo, rfl⟩ : ∃ wo : World, wo = wr := ⟨_, rfl⟩
    go_loopw [5, 7] (fun x i wr => ∃ (v : Value) (l2 : List UInt8) (q : Nat), x = v ∧ i = .int .i64 (56 - 8 * (q : Int)) ∧ q ≤ 8 ∧ l2 = lb ++ (List.range q).map (fun i => UInt8.ofNat (n * 8 / 2 ^ (56 - 8 * i))) ∧ OwB wr w.heap.size v l2 ∧ Below w.heap.size w wr) (fun _ i _ => (intOf i + 8).toNat)
    case atStart => exact ⟨_, lb, 0, rfl, rfl, by omega, by simp, HOv.out, HBv.out⟩
    case round =>
         obtain ⟨v, l2, q, rfl, rfl, hq, hl2e, hov, hbv⟩ := hrel
         obtain ⟨a5, c5, rfl, _, _⟩ := hov.form
         have hl2 : l2.length = lb.length + q := by rw [hl2e, List.length_append, List.length_map, List.length_range]
         have hl21 : l2.length ≤ lb.length + q := by omega
         have hl22 : lb.length + q ≤ l2.length := by omega
         obtain ⟨HO2', HB2', Hl2e⟩ := l3h hov hbv hl2e
         have hzr2 := hbv.size
         clear hov hbv hl2e hl2
         by_cases hlt : q < 8
         ·obtain ⟨I, hI, hI0, hI1, hI2⟩ : ∃ I : Int, I = 56 - 8 * (q : Int) ∧ 0 ≤ I ∧ I ≤ 56 ∧ 56 - I = 8 * (q : Int) := ⟨_, rfl, by omega, by omega, by omega⟩
          obtain ⟨bb, hbb⟩ := nXe (UInt8.ofNat (n * 8 / 2 ^ (56 - 8 * q)))
          obtain ⟨L6, hL6⟩ := nXe (l2 ++ [bb])
          have hl6 : l2.length + 1 = L6.length := by rw [hL6, List.length_append]; rfl
          have hl61 : L6.length ≤ l2.length + 1 := by omega
          have hl62 : l2.length + 1 ≤ L6.length := by omega
          have hstep : lb ++ (List.range (q + 1)).map (fun i => UInt8.ofNat (n * 8 / 2 ^ (56 - 8 * i))) = L6 := by
           rw [hL6, Hl2e.out, List.range_succ, List.map_append, ← List.append_assoc, hbb]
           rfl
          have hval : (X / 2 ^ I.toNat) % 256 = (bb.toNat : Int) := by
           have e : (UInt8.ofNat (n * 8 / 2 ^ (56 - 8 * q))).toNat = n * 8 / 2 ^ (56 - 8 * q) % 256 := rfl
           rw [hbb, e, HX.out, show I.toNat = 56 - 8 * q by omega, Int.natCast_emod, Int.natCast_ediv, Int.natCast_pow, Int.natCast_mul]
           rfl
          obtain ⟨HI, Hl6, HL6, Hstep, Hval⟩ := l5h hI hl6 hL6 hstep hval
          rw [← hI]
          clear hI hbb hL6 hl6 hstep hval
          have hq8 : q = 0 ∨ q = 1 ∨ q = 2 ∨ q = 3 ∨ q = 4 ∨ q = 5 ∨ q = 6 ∨ q = 7 := by omega
          have hI8 : I = 56 ∨ I = 48 ∨ I = 40 ∨ I = 32 ∨ I = 24 ∨ I = 16 ∨ I = 8 ∨ I = 0 := by omega
          clear hq8
          rcases hI8 with rfl | rfl | rfl | rfl | rfl | rfl | rfl | rfl
          ·have hv2 : X / 72057594037927936 = (bb.toNat : Int) := by
                have := Hval.out
                simp only [Int.reducePow, Int.reduceToNat, Int.ediv_one, Int.pow_zero] at this
                omega
           have Hv2 := lh hv2
           clear hv2
           go_wp2_with (at_builtin; go_must (refine Al _ rfl _ _ _ _ rfl A8 w.heap.size (.slice a5 l2.length c5) l2.length (byV l2) rfl ?own (.slice (some ⟨wr.heap.size, 0, none⟩) 1 1) 1 [.int .u8 (X / 72057594037927936)] rfl ?src L6.length Hl6.out (byV L6) ?hz ?h63 ?hby ?hba ?go))
           case own => exact HO2'.out.ext ((Ext.refl (fun _ => False) _).alloc _) (fun _ _ h => h)
           case src => exact CJ underlying100 rfl
           case hz => rw [HL6.out, Ao, Hv2.out]; rfl
           case h63 => unfold maxLen; omega
           case hby => omega
           case hba => simp; omega
           case go =>
                intro a7 c7 w7 hown hgrow _
                have HO7 := lh hown.bytes
                have HB7 := lh (Bl.grown (HB2'.out.alloc hzr2 _) hgrow (fun k hk => (HO2'.out.lt k hk).1))
                clear hown hgrow
                go_wp2
                go_roundw
                case rel =>
                 have := HI.out
                 exact ⟨_, L6, q + 1, rfl, by congr 1; omega, by omega, Hstep.out.symm, HO7.out, HB7.out⟩
                case measure => simp [intOf]
          ·have hv2 : X / 281474976710656 = (bb.toNat : Int) := by
                have := Hval.out
                simp only [Int.reducePow, Int.reduceToNat, Int.ediv_one, Int.pow_zero] at this
                omega
           have Hv2 := lh hv2
           clear hv2
           go_wp2_with (at_builtin; go_must (refine Al _ rfl _ _ _ _ rfl A8 w.heap.size (.slice a5 l2.length c5) l2.length (byV l2) rfl ?own (.slice (some ⟨wr.heap.size, 0, none⟩) 1 1) 1 [.int .u8 (X / 281474976710656)] rfl ?src L6.length Hl6.out (byV L6) ?hz ?h63 ?hby ?hba ?go))
           case own => exact HO2'.out.ext ((Ext.refl (fun _ => False) _).alloc _) (fun _ _ h => h)
           case src => exact CJ underlying100 rfl
           case hz => rw [HL6.out, Ao, Hv2.out]; rfl
           case h63 => unfold maxLen; omega
           case hby => omega
           case hba => simp; omega
           case go =>
                intro a7 c7 w7 hown hgrow _
                have HO7 := lh hown.bytes
                have HB7 := lh (Bl.grown (HB2'.out.alloc hzr2 _) hgrow (fun k hk => (HO2'.out.lt k hk).1))
                clear hown hgrow
                go_wp2
                go_roundw
                case rel =>
                 have := HI.out
                 exact ⟨_, L6, q + 1, rfl, by congr 1; omega, by omega, Hstep.out.symm, HO7.out, HB7.out⟩
                case measure => simp [intOf]
          ·have hv2 : X / 1099511627776 % 256 = (bb.toNat : Int) := by
                have := Hval.out
                simp only [Int.reducePow, Int.reduceToNat, Int.ediv_one, Int.pow_zero] at this
                omega
           have Hv2 := lh hv2
           clear hv2
           go_wp2_with (at_builtin; go_must (refine Al _ rfl _ _ _ _ rfl A8 w.heap.size (.slice a5 l2.length c5) l2.length (byV l2) rfl ?own (.slice (some ⟨wr.heap.size, 0, none⟩) 1 1) 1 [.int .u8 (X / 1099511627776 % 256)] rfl ?src L6.length Hl6.out (byV L6) ?hz ?h63 ?hby ?hba ?go))
           case own => exact HO2'.out.ext ((Ext.refl (fun _ => False) _).alloc _) (fun _ _ h => h)
           case src => exact CJ underlying100 rfl
           case hz => rw [HL6.out, Ao, Hv2.out]; rfl
           case h63 => unfold maxLen; omega
           case hby => omega
           case hba => simp; omega
           case go =>
                intro a7 c7 w7 hown hgrow _
                have HO7 := lh hown.bytes
                have HB7 := lh (Bl.grown (HB2'.out.alloc hzr2 _) hgrow (fun k hk => (HO2'.out.lt k hk).1))
                clear hown hgrow
                go_wp2
                go_roundw
                case rel =>
                 have := HI.out
                 exact ⟨_, L6, q + 1, rfl, by congr 1; omega, by omega, Hstep.out.symm, HO7.out, HB7.out⟩
                case measure => simp [intOf]
          ·have hv2 : X / 4294967296 % 256 = (bb.toNat : Int) := by
                have := Hval.out
                simp only [Int.reducePow, Int.reduceToNat, Int.ediv_one, Int.pow_zero] at this
                omega
           have Hv2 := lh hv2
           clear hv2
           go_wp2_with (at_builtin; go_must (refine Al _ rfl _ _ _ _ rfl A8 w.heap.size (.slice a5 l2.length c5) l2.length (byV l2) rfl ?own (.slice (some ⟨wr.heap.size, 0, none⟩) 1 1) 1 [.int .u8 (X / 4294967296 % 256)] rfl ?src L6.length Hl6.out (byV L6) ?hz ?h63 ?hby ?hba ?go))
           case own => exact HO2'.out.ext ((Ext.refl (fun _ => False) _).alloc _) (fun _ _ h => h)
           case src => exact CJ underlying100 rfl
           case hz => rw [HL6.out, Ao, Hv2.out]; rfl
           case h63 => unfold maxLen; omega
           case hby => omega
           case hba => simp; omega
           case go =>
                intro a7 c7 w7 hown hgrow _
                have HO7 := lh hown.bytes
                have HB7 := lh (Bl.grown (HB2'.out.alloc hzr2 _) hgrow (fun k hk => (HO2'.out.lt k hk).1))
                clear hown hgrow
                go_wp2
                go_roundw
                case rel =>
                 have := HI.out
                 exact ⟨_, L6, q + 1, rfl, by congr 1; omega, by omega, Hstep.out.symm, HO7.out, HB7.out⟩
                case measure => simp [intOf]
          ·have hv2 : X / 16777216 % 256 = (bb.toNat : Int) := by
                have := Hval.out
                simp only [Int.reducePow, Int.reduceToNat, Int.ediv_one, Int.pow_zero] at this
                omega
           have Hv2 := lh hv2
           clear hv2
           go_wp2_with (at_builtin; go_must (refine Al _ rfl _ _ _ _ rfl A8 w.heap.size (.slice a5 l2.length c5) l2.length (byV l2) rfl ?own (.slice (some ⟨wr.heap.size, 0, none⟩) 1 1) 1 [.int .u8 (X / 16777216 % 256)] rfl ?src L6.length Hl6.out (byV L6) ?hz ?h63 ?hby ?hba ?go))
           case own => exact HO2'.out.ext ((Ext.refl (fun _ => False) _).alloc _) (fun _ _ h => h)
           case src => exact CJ underlying100 rfl
           case hz => rw [HL6.out, Ao, Hv2.out]; rfl
           case h63 => unfold maxLen; omega
           case hby => omega
           case hba => simp; omega
           case go =>
                intro a7 c7 w7 hown hgrow _
                have HO7 := lh hown.bytes
                have HB7 := lh (Bl.grown (HB2'.out.alloc hzr2 _) hgrow (fun k hk => (HO2'.out.lt k hk).1))
                clear hown hgrow
                go_wp2
                go_roundw
                case rel =>
                 have := HI.out
                 exact ⟨_, L6, q + 1, rfl, by congr 1; omega, by omega, Hstep.out.symm, HO7.out, HB7.out⟩
                case measure => simp [intOf]
          ·have hv2 : X / 65536 % 256 = (bb.toNat : Int) := by
                have := Hval.out
                simp only [Int.reducePow, Int.reduceToNat, Int.ediv_one, Int.pow_zero] at this
                omega
           have Hv2 := lh hv2
           clear hv2
           go_wp2_with (at_builtin; go_must (refine Al _ rfl _ _ _ _ rfl A8 w.heap.size (.slice a5 l2.length c5) l2.length (byV l2) rfl ?own (.slice (some ⟨wr.heap.size, 0, none⟩) 1 1) 1 [.int .u8 (X / 65536 % 256)] rfl ?src L6.length Hl6.out (byV L6) ?hz ?h63 ?hby ?hba ?go))
           case own => exact HO2'.out.ext ((Ext.refl (fun _ => False) _).alloc _) (fun _ _ h => h)
           case src => exact CJ underlying100 rfl
           case hz => rw [HL6.out, Ao, Hv2.out]; rfl
           case h63 => unfold maxLen; omega
           case hby => omega
           case hba => simp; omega
           case go =>
                intro a7 c7 w7 hown hgrow _
                have HO7 := lh hown.bytes
                have HB7 := lh (Bl.grown (HB2'.out.alloc hzr2 _) hgrow (fun k hk => (HO2'.out.lt k hk).1))
                clear hown hgrow
                go_wp2
                go_roundw
                case rel =>
                 have := HI.out
                 exact ⟨_, L6, q + 1, rfl, by congr 1; omega, by omega, Hstep.out.symm, HO7.out, HB7.out⟩
                case measure => simp [intOf]
          ·have hv2 : X / 256 % 256 = (bb.toNat : Int) := by
                have := Hval.out
                simp only [Int.reducePow, Int.reduceToNat, Int.ediv_one, Int.pow_zero] at this
                omega
           have Hv2 := lh hv2
           clear hv2
           go_wp2_with (at_builtin; go_must (refine Al _ rfl _ _ _ _ rfl A8 w.heap.size (.slice a5 l2.length c5) l2.length (byV l2) rfl ?own (.slice (some ⟨wr.heap.size, 0, none⟩) 1 1) 1 [.int .u8 (X / 256 % 256)] rfl ?src L6.length Hl6.out (byV L6) ?hz ?h63 ?hby ?hba ?go))
           case own => exact HO2'.out.ext ((Ext.refl (fun _ => False) _).alloc _) (fun _ _ h => h)
           case src => exact CJ underlying100 rfl
           case hz => rw [HL6.out, Ao, Hv2.out]; rfl
           case h63 => unfold maxLen; omega
           case hby => omega
           case hba => simp; omega
           case go =>
                intro a7 c7 w7 hown hgrow _
                have HO7 := lh hown.bytes
                have HB7 := lh (Bl.grown (HB2'.out.alloc hzr2 _) hgrow (fun k hk => (HO2'.out.lt k hk).1))
                clear hown hgrow
                go_wp2
                go_roundw
                case rel =>
                 have := HI.out
                 exact ⟨_, L6, q + 1, rfl, by congr 1; omega, by omega, Hstep.out.symm, HO7.out, HB7.out⟩
                case measure => simp [intOf]
          ·have hv2 : X % 256 = (bb.toNat : Int) := by
                have := Hval.out
                simp only [Int.reducePow, Int.reduceToNat, Int.ediv_one, Int.pow_zero] at this
                omega
           have Hv2 := lh hv2
           clear hv2
           go_wp2_with (at_builtin; go_must (refine Al _ rfl _ _ _ _ rfl A8 w.heap.size (.slice a5 l2.length c5) l2.length (byV l2) rfl ?own (.slice (some ⟨wr.heap.size, 0, none⟩) 1 1) 1 [.int .u8 (X % 256)] rfl ?src L6.length Hl6.out (byV L6) ?hz ?h63 ?hby ?hba ?go))
           case own => exact HO2'.out.ext ((Ext.refl (fun _ => False) _).alloc _) (fun _ _ h => h)
           case src => exact CJ underlying100 rfl
           case hz => rw [HL6.out, Ao, Hv2.out]; rfl
           case h63 => unfold maxLen; omega
           case hby => omega
           case hba => simp; omega
           case go =>
                intro a7 c7 w7 hown hgrow _
                have HO7 := lh hown.bytes
                have HB7 := lh (Bl.grown (HB2'.out.alloc hzr2 _) hgrow (fun k hk => (HO2'.out.lt k hk).1))
                clear hown hgrow
                go_wp2
                go_roundw
                case rel =>
                 have := HI.out
                 exact ⟨_, L6, q + 1, rfl, by congr 1; omega, by omega, Hstep.out.symm, HO7.out, HB7.out⟩
                case measure => simp [intOf]
         ·obtain rfl : q = 8 := by omega
          go_wp2
          go_ret
          refine ⟨_, rfl, ?_, HB2'.out⟩
          have e : bl s ++ fill n = l2 := by
           rw [fill_eq, Hl2e.out, Hlb.out, HL1.out]
           simp only [List.append_assoc]
          rw [e]
          exact HO2'.out
end ShaF
namespace ShaM
open Go Go.RowKit U32 ShaS ShaW ShaA ShaB ShaF OctP Steps
def acc (v : List UInt32) (b : List UInt8) : Nat → List UInt32
 | 0 => v
 | k + 1 => addB (acc v b k) ((b.drop (64 * k)).take 64)
theorem Ed {v : List UInt32} (h : v.length = 8) (b : List UInt8) : ∀ k, (acc v b k).length = 8
 | 0 => h
 | k + 1 => F7 (Ed h b k) _
theorem Od (v : List UInt32) (b : List UInt8) : ∀ k, acc v b (k + 1) = acc (addB v (b.take 64)) (b.drop 64) k
 | 0 => by simp [acc]
 | k + 1 => by
   rw [acc, Od v b k, acc, List.drop_drop, show 64 * (k + 1) = 64 + 64 * k by omega]
theorem sumB_acc : ∀ (m : Nat) (v : List UInt32) (b : List UInt8), b.length = 64 * m → Ol v b = acc v b m
 | 0, v, b, h => by rw [Q0 (by omega)]; rfl
 | m + 1, v, b, h => by
   rw [Q3 (by omega), sumB_acc m _ _ (by rw [List.length_drop]; omega), Od]
theorem Ru {s : List UInt8} {k : Nat} (h : 64 * (k + 1) ≤ s.length) : ((pad s).drop (64 * k)).take 64 = (s.drop (64 * k)).take 64 := by
 unfold pad
 rw [List.drop_append_of_le_length (by omega), List.take_append_of_le_length (by rw [List.length_drop]; omega)]
theorem TU {s : List UInt8} {q : Nat} (h : 64 * q ≤ s.length) : (pad s).drop (64 * q) = s.drop (64 * q) ++ fill s.length := by
 unfold pad
 rw [List.drop_append_of_le_length h]
def sizeV : Value → Nat
 | .string s => s.size
 | .slice _ n _ => n
 | _ => 0
theorem Ee (w : World) (s : ByteArray) (hs : s.size ≤ 140737488355328) (hk : Au w) :
 Calls Tryz.prog 56 #[.string s] w fun e w' => e = .returned (.agg (byV (ShaS.sum (bl s))).toArray) ∧ Below w.heap.size w w' := by
 have hbg : ∀ i, i < 8 → w.cell? ⟨0, i, none⟩ = some (.int .u32 (u (Bz.getD i 0))) := hk.b
 have b0 : w.cell? ⟨0, 0, none⟩ = some (.int .u32 1779033703) := hbg 0 (by omega)
 have b1 : w.cell? ⟨0, 1, none⟩ = some (.int .u32 3144134277) := hbg 1 (by omega)
 have b2 : w.cell? ⟨0, 2, none⟩ = some (.int .u32 1013904242) := hbg 2 (by omega)
 have b3 : w.cell? ⟨0, 3, none⟩ = some (.int .u32 2773480762) := hbg 3 (by omega)
 have b4 : w.cell? ⟨0, 4, none⟩ = some (.int .u32 1359893119) := hbg 4 (by omega)
 have b5 : w.cell? ⟨0, 5, none⟩ = some (.int .u32 2600822924) := hbg 5 (by omega)
 have b6 : w.cell? ⟨0, 6, none⟩ = some (.int .u32 528734635) := hbg 6 (by omega)
 have b7 : w.cell? ⟨0, 7, none⟩ = some (.int .u32 1541459225) := hbg 7 (by omega)
 have hgl : 0 < w.heap.size := World.block_lt_of_cell? w _ b0
 have Hk := lh hk
 obtain ⟨W0, hW0⟩ := nXe ((w.alloc (.cells zl0 44)).alloc (.cells #[.int .u32 1779033703, .int .u32 3144134277, .int .u32 1013904242, .int .u32 2773480762, .int .u32 1359893119, .int .u32 2600822924, .int .u32 528734635, .int .u32 1541459225] 142))
 have hB0 : Below w.heap.size w W0 := by rw [hW0]; exact ((Below.refl _ w).alloc nR _).alloc (by simp) _
 have hx0 : W0.heap[w.heap.size]? = some (.cells (pB 32 []) 44 (0, 0)) := by rw [hW0]; exact Ak (AL _ _) _
 have hv0 : W0.heap[w.heap.size + 1]? = some (.cells (wV Bz).toArray 142 (0, 0)) := by rw [hW0]; exact Ad _ (by simp)
 obtain ⟨HB0, HW0⟩ := l2h hB0 hW0
 have hi : (Tryz.prog.info? 44).map (·.size) = some 32 := by kernel_rfl
 have Hi := lh hi
 clear hB0 hW0 hbg hk hi
 go_enter func56, ntmps56
 go_wp2
 go_loopw [0] (fun x wr => ∃ (S : ByteArray) (k : Nat), x = .string S ∧ 64 * k ≤ s.size ∧ bl S = (bl s).drop (64 * k) ∧ wr.heap[w.heap.size]? = some (.cells (pB 32 []) 44 (0, 0)) ∧ wr.heap[w.heap.size + 1]? = some (.cells (wV (acc Bz (pad (bl s)) k)).toArray 142 (0, 0)) ∧ Below w.heap.size w wr) (fun x _ => sizeV x)
 case atStart =>
  rw [← HW0.out]
  exact ⟨s, 0, rfl, by omega, by simp, hx0, hv0, HB0.out⟩
 case round =>
  obtain ⟨S, k, rfl, Yo, hS, hx, hv, hb⟩ := hrel
  clear hx0 hv0
  have hSz : S.size = s.size - 64 * k := by rw [← AP, hS, List.length_drop, AP]
  have fU : S.size + 64 * k ≤ s.size := by omega
  have fT : s.size ≤ S.size + 64 * k := by omega
  obtain ⟨HS, Hx, Hv, HB⟩ := l4h hS hx hv hb
  have hvl := AJ hv
  have ha8 := Ed (v := Bz) rfl (pad (bl s)) k
  have Ha8 := lh ha8
  clear hS hx hv hb hSz ha8
  by_cases hge : 64 ≤ S.size
  ·obtain ⟨T, hT⟩ := nXe (S.extract 0 64)
   have hbT : bl T = ((pad (bl s)).drop (64 * k)).take 64 := by
        rw [hT, Aj, Ru (by rw [AP]; omega), HS.out]
        rfl
   have hTz : T.size = 64 := by rw [hT, ByteArray.size_extract]; omega
   have ho := Ex wr (base := wr.heap.size) 5 T (by unfold maxLen; omega) nR
   have hbel := Dn wr 5 T
   have hcv := Go.Lib.run_convert_string_bytes (P := Tryz.prog) wr 9 100 5 T (u := .string) underlying9 underlying100 underlying5
   obtain ⟨W1, hW1⟩ := nXe (Go.Lib.bytesWorld wr 5 T)
   rw [← hW1] at ho hbel hcv
   rw [hTz] at ho hcv
   have hA := UQ W1 (w.heap.size + 1) _ Ha8.out ((hbel.block _ hvl).trans Hv.out) _ (bl T) (by rw [AP]; exact hTz) ho.sl (Hk.out.below (HB.out.trans (hbel.mono HB.out.size)))
   rw [hT] at hcv
   obtain ⟨HA, HbT, HBel⟩ := l3h hA hbT hbel
   clear hA hbT hbel ho hT hTz hW1
   go_wp2_with fail
   refine HA.out.mono ?_
   rintro e w2 ⟨rfl, hv2, hE2⟩
   have hv3 : w2.heap[w.heap.size + 1]? = some (.cells (wV (acc Bz (pad (bl s)) (k + 1))).toArray 142 (0, 0)) := by rw [acc, ← HbT.out]; exact hv2
   have Hv3 := lh hv3
   have Hx3 := lh ((hE2.block _ (by have := HBel.out.size; omega) (by simp)).trans ((HBel.out.block _ (by omega)).trans Hx.out))
   have HB3 := lh (Bl.ext (HB.out.trans (HBel.out.mono HB.out.size)) hE2 (fun k hk h => by omega))
   clear hv2 hE2 hv3 hcv
   go_wp2
   go_roundw
   case rel =>
        refine ⟨_, k + 1, rfl, by omega, ?_, Hx3.out, Hv3.out, HB3.out⟩
        rw [Aj, HS.out, List.drop_drop, List.take_of_length_le (by rw [List.length_drop, AP]; omega)]
        congr 1
   case measure => simp [sizeV]; omega
  ·have hF := VU wr S s.size (by omega) hs (by omega)
   have hpd : bl S ++ fill s.size = (pad (bl s)).drop (64 * k) := by
        rw [TU (by rw [AP]; exact Yo), HS.out, AP]
   rw [hpd] at hF
   have HF := lh hF
   clear hF hpd
   go_wp2_with fail
   refine HF.out.mono ?_
   rintro e w3 ⟨v', rfl, hov, hb3⟩
   obtain ⟨a4, c4, rfl, hn4, hm4⟩ := hov.form
   obtain ⟨P, hP⟩ := nXe (pad (bl s))
   have hPm : P.length % 64 = 0 := by rw [hP]; exact Gh _
   have hPl : P.length ≤ s.size + 200 := by rw [hP, pad, List.length_append, Ej, AP]; omega
   rw [← hP] at hov Hv Ha8
   have hkl : 64 * k ≤ P.length := by rw [hP, pad, List.length_append, AP]; omega
   have hn5 : (P.drop (64 * k)).length = P.length - 64 * k := List.length_drop
   obtain ⟨n4, hn6⟩ := nXe ((P.drop (64 * k)).length)
   rw [← hP, ← hn6]
   have hsl := hov.sl
   rw [← hn6] at hsl
   have hob : ∀ kb, (Value.slice a4 n4 c4).ownBlock = some kb → w.heap.size + 2 ≤ kb := fun kb h => by
        have := (hov.lt kb (by rw [← h]; cases a4 <;> rfl)).1
        omega
   have hn7 : n4 + 64 * k ≤ P.length := by omega
   have hn8 : P.length ≤ n4 + 64 * k := by omega
   have hv3 := (hb3.block _ hvl).trans Hv.out
   have hx3 := (hb3.block _ (by omega)).trans Hx.out
   have hb4 := HB.out.trans (hb3.mono HB.out.size)
   obtain ⟨Hsl, Hob, HP, Hv3, Hx3, HB3⟩ := l6h hsl hob hP hv3 hx3 hb4
   clear hP hov hn5 hn6 hsl hob hv3 hx3 hb4 hb3 HF Hv Hx HB
   go_wp2
   obtain ⟨wo, rfl⟩ : ∃ wo : World, wo = wr := ⟨_, rfl⟩
   go_loopw [5] (fun x wq => ∃ (a : Option Addr) (n c q : Nat), x = .slice a n c ∧ n + 64 * q ≤ P.length ∧ P.length ≤ n + 64 * q ∧ Sl wq (.slice a n c) 1 n (byV (P.drop (64 * q))) ∧ (∀ kb, (Value.slice a n c).ownBlock = some kb → w.heap.size + 2 ≤ kb) ∧
        wq.heap[w.heap.size]? = some (.cells (pB 32 []) 44 (0, 0)) ∧ wq.heap[w.heap.size + 1]? = some (.cells (wV (acc Bz P q)).toArray 142 (0, 0)) ∧ Below w.heap.size w wq) (fun x _ => sizeV x)
   case atStart => exact ⟨a4, n4, c4, k, rfl, hn7, hn8, Hsl.out, Hob.out, Hx3.out, Hv3.out, HB3.out⟩
   case round =>
        obtain ⟨a, n, c, q, rfl, hq1, hq2, hsl, hob, hx, hv, hb⟩ := hrel
        have hvl := AJ hv
        have ha8 := Ed (v := Bz) rfl P q
        obtain ⟨Ha, SQ, bI, Hx5, Hv5, HB5⟩ := l6h ha8 hsl hob hx hv hb
        obtain ⟨_, c', hce, hnc, hcm⟩ := hsl.form
        cases hce
        clear ha8 hob hx hv hb
        by_cases hpos : 0 < n
        ·obtain ⟨B, off, rfl, hBl, hcell⟩ := hsl.plain (by rw [AZ, List.length_drop]; omega)
         have hn64 : 64 ≤ n := by omega
         have htk := hsl.take hn64
         have hA := UQ wr (w.heap.size + 1) _ Ha.out Hv5.out _ ((P.drop (64 * q)).take 64) (by rw [List.length_take, List.length_drop]; omega) (by
          unfold byV at htk ⊢
          rw [List.map_take]
          exact htk) (Hk.out.below HB5.out)
         have HA := lh hA
         clear hA htk hcell hsl
         have e6 : ((byV (P.drop (64 * q))).take (n * 1)).drop (64 * 1) = byV (P.drop (64 * (q + 1))) := by
          rw [List.take_of_length_le (by rw [AZ, List.length_drop]; omega)]
          unfold byV
          rw [← List.map_drop, List.drop_drop, show 64 * q + 64 * 1 = 64 * (q + 1) by omega]
         have HE6 := lh e6
         have hBn : w.heap.size + 2 ≤ B := bI.out B rfl
         clear e6
         by_cases hc64 : c = 64
         ·subst hc64
          obtain rfl : n = 64 := by omega
          go_wp2_with fail
          refine HA.out.mono ?_
          rintro e w6 ⟨rfl, hv6, hE6⟩
          have hs6 := (SQ.out.cut (k := 64) (m := 64) (A := ⟨B, off, none⟩) hn64 nR (by simp)).ext hE6 (fun kb h hS => by simp [Value.ownBlock] at h; omega)
          rw [HE6.out] at hs6
          obtain ⟨Hs6, Hv6⟩ := l2h hs6 hv6
          have Hx6 := lh ((hE6.block _ (by omega) (by simp)).trans Hx5.out)
          have HB6 := lh (Bl.ext HB5.out hE6 (fun k hk h => by omega))
          clear hs6 hv6 hE6
          go_wp2
          go_roundw
          case rel => exact ⟨_, _, _, q + 1, rfl, by omega, by omega, Hs6.out, fun kb h => by simp [Value.ownBlock] at h; omega, Hx6.out, Hv6.out, HB6.out⟩
          case measure => simp [sizeV]
         ·go_wp2_with fail
          refine HA.out.mono ?_
          rintro e w6 ⟨rfl, hv6, hE6⟩
          have hs6 := (SQ.out.cut (k := 64) (m := n) (A := ⟨B, off + 64, none⟩) hn64 nR (by rw [if_neg hc64, Addr.add_mid])).ext hE6 (fun kb h hS => by simp [Value.ownBlock] at h; omega)
          rw [HE6.out] at hs6
          obtain ⟨Hs6, Hv6⟩ := l2h hs6 hv6
          have Hx6 := lh ((hE6.block _ (by omega) (by simp)).trans Hx5.out)
          have HB6 := lh (Bl.ext HB5.out hE6 (fun k hk h => by omega))
          clear hs6 hv6 hE6
          go_wp2
          go_roundw
          case rel => exact ⟨_, _, _, q + 1, rfl, by omega, by omega, Hs6.out, fun kb h => by simp [Value.ownBlock] at h; omega, Hx6.out, Hv6.out, HB6.out⟩
          case measure => simp [sizeV]; omega
        ·have hsum : (acc Bz P q).flatMap be = ShaS.sum (bl s) := by
          unfold ShaS.sum
          rw [← HP.out, sumB_acc q Bz P (by omega)]
         have hBy := UL wr (w.heap.size + 1) _ Ha.out Hv5.out
         rw [hsum] at hBy
         have XQ : (byV (ShaS.sum (bl s))).toArray.size = 32 := by simp [AZ, Bb]
         have hone : (byV (ShaS.sum (bl s))).toArray.all (·.oneCell') = true := by simp [byV, Value.oneCell']
         obtain ⟨p, hp⟩ := nXe ((byV (ShaS.sum (bl s))).toArray)
         rw [← hp] at hBy XQ hone
         obtain ⟨HBy, Hone, X6, Hp⟩ := l4h hBy hone XQ hp
         clear hBy hone XQ hp hsum hsl
         go_wp2_with fail
         refine HBy.out.mono ?_
         rintro e w6 ⟨rfl, hb6⟩
         have Hx6 := lh ((hb6.block _ (by omega)).trans Hx5.out)
         have HB6 := tbB HB5 hb6
         clear hb6
         go_wp2_with (refine wpList_store_row rfl _ _ _ rfl w.heap.size p rfl rfl _ _ Hx6.out (by rw [X6.out]; exact Hi.out) (by rw [X6.out]; exact IK (by simp)) Hone.out ?_)
         go_wp2
         refine bodyPost_ret (v := .agg p) (results_cell_row rfl _ _ w.heap.size _ p (0, 0) _ rfl (AR Hx6.out) underlying44 rfl (by rw [X6.out]; exact Hi.out)) rfl ⟨by rw [Hp.out], AQ HB6.out nR _⟩
end ShaM
end Go.Proofs.YtceiajepcokacaaGreatDoor
