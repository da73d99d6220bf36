/-
  WHAT IS PROVED: contracts and plain laws. Condition: each names its own.
-/
import Derived.Test.YtceiajepcokacaaGreatDoorS0
import Derived.Test.YtceiajepcokacaaGreatDoorZHF19
set_option linter.unusedVariables false
set_option linter.unusedSimpArgs false
set_option maxRecDepth 100000
set_option maxHeartbeats 4000000
namespace Go.Proofs.YtceiajepcokacaaGreatDoor
open Go.Proofs.Tryz
namespace R2T
open Go Go.RowKit U32 ShaS ShaT
theorem Ce (x : UInt32) (n : Nat) (h0 : 0 < n) (h : n < 32) : bits .or .u32 (u x / 2 ^ n) ((u x * 2 ^ (32 - n)) % 4294967296) = u (rotr x n) := by
 rw [shl_nat x (32 - n) (by omega), G8 x n h, or_u]
 rfl
theorem KZ (w : World) (x : UInt32) : Calls Tryz.prog 120 #[.int .u32 (u x), .int .i64 2] w fun e w' => e = .returned (.int .u32 (u (rotr x 2))) ∧ ∃ n, w' = w.drewN n := by
 have hfin := Ce x 2 (by omega) (by omega)
 rw [show ((2 : Int) ^ (32 - 2)) = 1073741824 by decide, show ((2 : Int) ^ 2) = 4 by decide] at hfin
 have Hfin := lh hfin
 have h0 := u_ge x
 have h1 := u_lt x
 obtain ⟨X, hX⟩ := nXe (u x)
 rw [← hX] at h0 h1 Hfin ⊢
 clear hX hfin
 go_enter func120, ntmps120
 go_wp2_with fail
 go_quiet (fail)
 go_wp2
 go_ret
 exact ⟨by rw [← Hfin.out]; rfl, _, rfl⟩
theorem KY (w : World) (x : UInt32) : Calls Tryz.prog 120 #[.int .u32 (u x), .int .i64 6] w fun e w' => e = .returned (.int .u32 (u (rotr x 6))) ∧ ∃ n, w' = w.drewN n := by
 have hfin := Ce x 6 (by omega) (by omega)
 rw [show ((2 : Int) ^ (32 - 6)) = 67108864 by decide, show ((2 : Int) ^ 6) = 64 by decide] at hfin
 have Hfin := lh hfin
 have h0 := u_ge x
 have h1 := u_lt x
 obtain ⟨X, hX⟩ := nXe (u x)
 rw [← hX] at h0 h1 Hfin ⊢
 clear hX hfin
 go_enter func120, ntmps120
 go_wp2_with fail
 go_quiet (fail)
 go_wp2
 go_ret
 exact ⟨by rw [← Hfin.out]; rfl, _, rfl⟩
theorem KX (w : World) (x : UInt32) : Calls Tryz.prog 120 #[.int .u32 (u x), .int .i64 7] w fun e w' => e = .returned (.int .u32 (u (rotr x 7))) ∧ ∃ n, w' = w.drewN n := by
 have hfin := Ce x 7 (by omega) (by omega)
 rw [show ((2 : Int) ^ (32 - 7)) = 33554432 by decide, show ((2 : Int) ^ 7) = 128 by decide] at hfin
 have Hfin := lh hfin
 have h0 := u_ge x
 have h1 := u_lt x
 obtain ⟨X, hX⟩ := nXe (u x)
 rw [← hX] at h0 h1 Hfin ⊢
 clear hX hfin
 go_enter func120, ntmps120
 go_wp2_with fail
 go_quiet (fail)
 go_wp2
 go_ret
 exact ⟨by rw [← Hfin.out]; rfl, _, rfl⟩
theorem KE (w : World) (x : UInt32) : Calls Tryz.prog 120 #[.int .u32 (u x), .int .i64 11] w fun e w' => e = .returned (.int .u32 (u (rotr x 11))) ∧ ∃ n, w' = w.drewN n := by
 have hfin := Ce x 11 (by omega) (by omega)
 rw [show ((2 : Int) ^ (32 - 11)) = 2097152 by decide, show ((2 : Int) ^ 11) = 2048 by decide] at hfin
 have Hfin := lh hfin
 have h0 := u_ge x
 have h1 := u_lt x
 obtain ⟨X, hX⟩ := nXe (u x)
 rw [← hX] at h0 h1 Hfin ⊢
 clear hX hfin
 go_enter func120, ntmps120
 go_wp2_with fail
 go_quiet (fail)
 go_wp2
 go_ret
 exact ⟨by rw [← Hfin.out]; rfl, _, rfl⟩
theorem KD (w : World) (x : UInt32) : Calls Tryz.prog 120 #[.int .u32 (u x), .int .i64 13] w fun e w' => e = .returned (.int .u32 (u (rotr x 13))) ∧ ∃ n, w' = w.drewN n := by
 have hfin := Ce x 13 (by omega) (by omega)
 rw [show ((2 : Int) ^ (32 - 13)) = 524288 by decide, show ((2 : Int) ^ 13) = 8192 by decide] at hfin
 have Hfin := lh hfin
 have h0 := u_ge x
 have h1 := u_lt x
 obtain ⟨X, hX⟩ := nXe (u x)
 rw [← hX] at h0 h1 Hfin ⊢
 clear hX hfin
 go_enter func120, ntmps120
 go_wp2_with fail
 go_quiet (fail)
 go_wp2
 go_ret
 exact ⟨by rw [← Hfin.out]; rfl, _, rfl⟩
theorem KC (w : World) (x : UInt32) : Calls Tryz.prog 120 #[.int .u32 (u x), .int .i64 17] w fun e w' => e = .returned (.int .u32 (u (rotr x 17))) ∧ ∃ n, w' = w.drewN n := by
 have hfin := Ce x 17 (by omega) (by omega)
 rw [show ((2 : Int) ^ (32 - 17)) = 32768 by decide, show ((2 : Int) ^ 17) = 131072 by decide] at hfin
 have Hfin := lh hfin
 have h0 := u_ge x
 have h1 := u_lt x
 obtain ⟨X, hX⟩ := nXe (u x)
 rw [← hX] at h0 h1 Hfin ⊢
 clear hX hfin
 go_enter func120, ntmps120
 go_wp2_with fail
 go_quiet (fail)
 go_wp2
 go_ret
 exact ⟨by rw [← Hfin.out]; rfl, _, rfl⟩
theorem KA (w : World) (x : UInt32) : Calls Tryz.prog 120 #[.int .u32 (u x), .int .i64 18] w fun e w' => e = .returned (.int .u32 (u (rotr x 18))) ∧ ∃ n, w' = w.drewN n := by
 have hfin := Ce x 18 (by omega) (by omega)
 rw [show ((2 : Int) ^ (32 - 18)) = 16384 by decide, show ((2 : Int) ^ 18) = 262144 by decide] at hfin
 have Hfin := lh hfin
 have h0 := u_ge x
 have h1 := u_lt x
 obtain ⟨X, hX⟩ := nXe (u x)
 rw [← hX] at h0 h1 Hfin ⊢
 clear hX hfin
 go_enter func120, ntmps120
 go_wp2_with fail
 go_quiet (fail)
 go_wp2
 go_ret
 exact ⟨by rw [← Hfin.out]; rfl, _, rfl⟩
theorem J9 (w : World) (x : UInt32) : Calls Tryz.prog 120 #[.int .u32 (u x), .int .i64 19] w fun e w' => e = .returned (.int .u32 (u (rotr x 19))) ∧ ∃ n, w' = w.drewN n := by
 have hfin := Ce x 19 (by omega) (by omega)
 rw [show ((2 : Int) ^ (32 - 19)) = 8192 by decide, show ((2 : Int) ^ 19) = 524288 by decide] at hfin
 have Hfin := lh hfin
 have h0 := u_ge x
 have h1 := u_lt x
 obtain ⟨X, hX⟩ := nXe (u x)
 rw [← hX] at h0 h1 Hfin ⊢
 clear hX hfin
 go_enter func120, ntmps120
 go_wp2_with fail
 go_quiet (fail)
 go_wp2
 go_ret
 exact ⟨by rw [← Hfin.out]; rfl, _, rfl⟩
theorem J8 (w : World) (x : UInt32) : Calls Tryz.prog 120 #[.int .u32 (u x), .int .i64 22] w fun e w' => e = .returned (.int .u32 (u (rotr x 22))) ∧ ∃ n, w' = w.drewN n := by
 have hfin := Ce x 22 (by omega) (by omega)
 rw [show ((2 : Int) ^ (32 - 22)) = 1024 by decide, show ((2 : Int) ^ 22) = 4194304 by decide] at hfin
 have Hfin := lh hfin
 have h0 := u_ge x
 have h1 := u_lt x
 obtain ⟨X, hX⟩ := nXe (u x)
 rw [← hX] at h0 h1 Hfin ⊢
 clear hX hfin
 go_enter func120, ntmps120
 go_wp2_with fail
 go_quiet (fail)
 go_wp2
 go_ret
 exact ⟨by rw [← Hfin.out]; rfl, _, rfl⟩
theorem J7 (w : World) (x : UInt32) : Calls Tryz.prog 120 #[.int .u32 (u x), .int .i64 25] w fun e w' => e = .returned (.int .u32 (u (rotr x 25))) ∧ ∃ n, w' = w.drewN n := by
 have hfin := Ce x 25 (by omega) (by omega)
 rw [show ((2 : Int) ^ (32 - 25)) = 128 by decide, show ((2 : Int) ^ 25) = 33554432 by decide] at hfin
 have Hfin := lh hfin
 have h0 := u_ge x
 have h1 := u_lt x
 obtain ⟨X, hX⟩ := nXe (u x)
 rw [← hX] at h0 h1 Hfin ⊢
 clear hX hfin
 go_enter func120, ntmps120
 go_wp2_with fail
 go_quiet (fail)
 go_wp2
 go_ret
 exact ⟨by rw [← Hfin.out]; rfl, _, rfl⟩
theorem KF (w : World) (x : UInt32) : Calls Tryz.prog 133 #[.int .u32 (u x), .int .i64 3] w fun e w' => e = .returned (.int .u32 (u (x >>> 3))) ∧ w = w' := by
 have hfin := G8 x 3 (by omega)
 rw [show ((2 : Int) ^ 3) = 8 by decide] at hfin
 have Hfin := lh hfin
 have h0 := u_ge x
 have h1 := u_lt x
 obtain ⟨X, hX⟩ := nXe (u x)
 rw [← hX] at h0 h1 Hfin ⊢
 clear hX hfin
 go_enter func133, ntmps133
 go_wp2
 go_ret
 exact ⟨by rw [show u (x >>> 3) = u (x >>> UInt32.ofNat 3) from rfl, ← Hfin.out]; rfl, rfl⟩
theorem Jn (w : World) (x : UInt32) : Calls Tryz.prog 133 #[.int .u32 (u x), .int .i64 10] w fun e w' => e = .returned (.int .u32 (u (x >>> 10))) ∧ w = w' := by
 have hfin := G8 x 10 (by omega)
 rw [show ((2 : Int) ^ 10) = 1024 by decide] at hfin
 have Hfin := lh hfin
 have h0 := u_ge x
 have h1 := u_lt x
 obtain ⟨X, hX⟩ := nXe (u x)
 rw [← hX] at h0 h1 Hfin ⊢
 clear hX hfin
 go_enter func133, ntmps133
 go_wp2
 go_ret
 exact ⟨by rw [show u (x >>> 10) = u (x >>> UInt32.ofNat 10) from rfl, ← Hfin.out]; rfl, rfl⟩
end R2T
namespace R2F
open Go Go.RowKit U32 ShaS OctP Steps ShaF
theorem KN (w : World) (s : ByteArray) (hn : s.size ≤ 140737488351232) :
 Calls Tryz.prog 117 #[.string s] w fun e w' => ∃ v', e = .returned v' ∧ OwB w' w.heap.size v' (bl s ++ fill s.size) ∧ Below w.heap.size w w' := by
 have ho := Ex w (base := w.heap.size) 5 s (by unfold maxLen; omega) nR
 have hbel := Dn w 5 s
 obtain ⟨W1, hW1⟩ := nXe (Go.Lib.bytesWorld w 5 s)
 rw [← hW1] at ho hbel
 have hcv := Go.Lib.run_convert_string_bytes (P := Tryz.prog) w 9 100 5 s (u := .string) underlying9 underlying100 underlying5
 obtain ⟨cp, hcp⟩ := nXe (grownCap w s.size 0 5)
 rw [← hW1] at hcv
 rw [← hcp] at hcv ho
 have hz1 := hbel.size
 obtain ⟨HO, HBel⟩ := l2h ho hbel
 have hzs : zs s.size ≤ 63 := by unfold zs; omega
 have hzs2 : (s.size + 1 + zs s.size) % 64 = 56 := by unfold zs; omega
 have Hz2 := lh hzs2
 obtain ⟨L1, hL1⟩ := nXe (bl s ++ [0x80])
 have hl2 : s.size + 1 = L1.length := by rw [hL1, List.length_append, AP]; rfl
 have hl3 : L1.length ≤ s.size + 1 := by omega
 have hl4 : s.size + 1 ≤ L1.length := by omega
 obtain ⟨HL1, Hl2⟩ := l2h hL1 hl2
 clear ho hbel hW1 hcp hzs2 hL1 hl2
 go_enter func117, ntmps117
 go_wp2_with (at_builtin; go_must (refine Al _ rfl _ _ _ _ rfl A8 w.heap.size (.slice (some ⟨w.heap.size, 0, none⟩) s.size cp) s.size (byV s.data.toList) rfl ?own (.slice (some ⟨W1.heap.size, 0, none⟩) 1 1) 1 [.int .u8 128] rfl ?src L1.length Hl2.out (byV L1) ?hz ?h63 ?hby ?hba ?go))
 case own => exact HO.out.ext ((Ext.refl (fun _ => False) _).alloc _) (fun _ _ h => h)
 case src => exact CJ underlying100 rfl
 case hz => rw [HL1.out, Ao]; rfl
 case h63 => unfold maxLen; omega
 case hby => omega
 case hba => simp; omega
 case go =>
  intro a2 c2 w2 hown hgrow _
  have HO2 := lh hown.bytes
  have HB2 := lh (Bl.grown (HBel.out.alloc hz1 _) hgrow (fun k hk => by simp [Value.ownBlock] at hk; omega))
  clear hown hgrow hcv
  go_wp2
  go_loopw [3] (fun x wr => ∃ (v : Value) (lb : List UInt8) (j : Nat), x = v ∧ j ≤ zs s.size ∧ lb = L1 ++ List.replicate j 0 ∧ OwB wr w.heap.size v lb ∧ Below w.heap.size w wr) (fun x _ => s.size + 1 + zs s.size - lenOf x)
  case atStart => exact ⟨_, L1, 0, rfl, by omega, by simp, HO2.out, HB2.out⟩
  case round =>
   obtain ⟨v, lb, j, rfl, hj, hlb, hov, hbv⟩ := hrel
   obtain ⟨a3, c3, rfl, _, _⟩ := hov.form
   have hll : lb.length = L1.length + j := by rw [hlb, List.length_append, List.length_replicate]
   have hll1 : lb.length ≤ s.size + 1 + j := by omega
   have hll2 : s.size + 1 + j ≤ lb.length := by omega
   obtain ⟨HOv, HBv, Hlb⟩ := l3h hov hbv hlb
   have hzr := hbv.size
   clear hov hbv hlb hll
   by_cases hlt : j < zs s.size
   ·have hne : (((lb.length : Int) % 64) != 56) = true := by
         have := Hz2.out
         simp only [bne_iff_ne]
         omega
    obtain ⟨L5, hL5⟩ := nXe (lb ++ [0])
    have hl5 : lb.length + 1 = L5.length := by rw [hL5, List.length_append]; rfl
    have hl6 : L5.length ≤ lb.length + 1 := by omega
    have hl7 : lb.length + 1 ≤ L5.length := by omega
    obtain ⟨HL5, Hl5⟩ := l2h hL5 hl5
    clear hL5 hl5
    go_wp2_with (at_builtin; go_must (refine Al _ rfl _ _ _ _ rfl A8 w.heap.size (.slice a3 lb.length c3) lb.length (byV lb) rfl ?own (.slice (some ⟨wr.heap.size, 0, none⟩) 1 1) 1 [.int .u8 0] rfl ?src L5.length Hl5.out (byV L5) ?hz ?h63 ?hby ?hba ?go))
    case own => exact HOv.out.ext ((Ext.refl (fun _ => False) _).alloc _) (fun _ _ h => h)
    case src => exact CJ underlying100 rfl
    case hz => rw [HL5.out, Ao]; rfl
    case h63 => unfold maxLen; omega
    case hby => omega
    case hba => simp; omega
    case go =>
         intro a4 c4 w4 hown hgrow _
         have HO4 := lh hown.bytes
         have HB4 := lh (Bl.grown (HBv.out.alloc hzr _) hgrow (fun k hk => (HOv.out.lt k hk).1))
         clear hown hgrow
         go_wp2
         go_roundw
         case rel =>
          refine ⟨_, L5, j + 1, rfl, by omega, ?_, HO4.out, HB4.out⟩
          rw [HL5.out, Hlb.out, List.replicate_succ']
          simp
         case measure => simp [lenOf]; omega
   ·obtain rfl : j = zs s.size := by omega
    have hne : (((lb.length : Int) % 64) != 56) = false := by
         have := Hz2.out
         simp only [bne_eq_false_iff_eq]
         omega
    obtain ⟨X, hX⟩ : ∃ X : Int, X = (s.size : Int) * 8 := ⟨_, rfl⟩
    have hX0 : 0 ≤ X := by omega
    have hX1 : X ≤ 1125899906842624 := by omega
    have HX := lh hX
    go_wp2
    rw [← hX]
    clear hX
    obtain ⟨wo, rfl⟩ : ∃ wo : World, wo = wr := ⟨_, rfl⟩
    go_loopw [3, 5] (fun x i wr => ∃ (v : Value) (l2 : List UInt8) (q : Nat), x = v ∧ i = .int .i64 (56 - 8 * (q : Int)) ∧ q ≤ 8 ∧ l2 = lb ++ (List.range q).map (fun i => UInt8.ofNat (s.size * 8 / 2 ^ (56 - 8 * i))) ∧ OwB wr w.heap.size v l2 ∧ Below w.heap.size w wr) (fun _ i _ => (intOf i + 8).toNat)
    case atStart => exact ⟨_, lb, 0, rfl, rfl, by omega, by simp, HOv.out, HBv.out⟩
    case round =>
         obtain ⟨v, l2, q, rfl, rfl, hq, hl2e, hov, hbv⟩ := hrel
         obtain ⟨a5, c5, rfl, _, _⟩ := hov.form
         have hl2 : l2.length = lb.length + q := by rw [hl2e, List.length_append, List.length_map, List.length_range]
         have hl21 : l2.length ≤ lb.length + q := by omega
         have hl22 : lb.length + q ≤ l2.length := by omega
         obtain ⟨HO2', HB2', Hl2e⟩ := l3h hov hbv hl2e
         have hzr2 := hbv.size
         clear hov hbv hl2e hl2
         by_cases hlt : q < 8
         ·obtain ⟨I, hI, hI0, hI1, hI2⟩ : ∃ I : Int, I = 56 - 8 * (q : Int) ∧ 0 ≤ I ∧ I ≤ 56 ∧ 56 - I = 8 * (q : Int) := ⟨_, rfl, by omega, by omega, by omega⟩
          obtain ⟨bb, hbb⟩ := nXe (UInt8.ofNat (s.size * 8 / 2 ^ (56 - 8 * q)))
          obtain ⟨L6, hL6⟩ := nXe (l2 ++ [bb])
          have hl6 : l2.length + 1 = L6.length := by rw [hL6, List.length_append]; rfl
          have hl61 : L6.length ≤ l2.length + 1 := by omega
          have hl62 : l2.length + 1 ≤ L6.length := by omega
          have hstep : lb ++ (List.range (q + 1)).map (fun i => UInt8.ofNat (s.size * 8 / 2 ^ (56 - 8 * i))) = L6 := by
           rw [hL6, Hl2e.out, List.range_succ, List.map_append, ← List.append_assoc, hbb]
           rfl
          have hval : (X / 2 ^ I.toNat) % 256 = (bb.toNat : Int) := by
           have e : (UInt8.ofNat (s.size * 8 / 2 ^ (56 - 8 * q))).toNat = s.size * 8 / 2 ^ (56 - 8 * q) % 256 := rfl
           rw [hbb, e, HX.out, show I.toNat = 56 - 8 * q by omega, Int.natCast_emod, Int.natCast_ediv, Int.natCast_pow, Int.natCast_mul]
           rfl
          obtain ⟨HI, Hl6, HL6, Hstep, Hval⟩ := l5h hI hl6 hL6 hstep hval
          rw [← hI]
          clear hI hbb hL6 hl6 hstep hval
          have hq8 : q = 0 ∨ q = 1 ∨ q = 2 ∨ q = 3 ∨ q = 4 ∨ q = 5 ∨ q = 6 ∨ q = 7 := by omega
          have hI8 : I = 56 ∨ I = 48 ∨ I = 40 ∨ I = 32 ∨ I = 24 ∨ I = 16 ∨ I = 8 ∨ I = 0 := by omega
          clear hq8
          rcases hI8 with rfl | rfl | rfl | rfl | rfl | rfl | rfl | rfl
          ·have hv2 : X / 72057594037927936 = (bb.toNat : Int) := by
            have := Hval.out
            simp only [Int.reducePow, Int.reduceToNat, Int.ediv_one, Int.pow_zero] at this
            omega
           have Hv2 := lh hv2
           clear hv2
           go_wp2_with (at_builtin; go_must (refine Al _ rfl _ _ _ _ rfl A8 w.heap.size (.slice a5 l2.length c5) l2.length (byV l2) rfl ?own (.slice (some ⟨wr.heap.size, 0, none⟩) 1 1) 1 [.int .u8 (X / 72057594037927936)] rfl ?src L6.length Hl6.out (byV L6) ?hz ?h63 ?hby ?hba ?go))
           case own => exact HO2'.out.ext ((Ext.refl (fun _ => False) _).alloc _) (fun _ _ h => h)
           case src => exact CJ underlying100 rfl
           case hz => rw [HL6.out, Ao, Hv2.out]; rfl
           case h63 => unfold maxLen; omega
           case hby => omega
           case hba => simp; omega
           case go =>
            intro a7 c7 w7 hown hgrow _
            have HO7 := lh hown.bytes
            have HB7 := lh (Bl.grown (HB2'.out.alloc hzr2 _) hgrow (fun k hk => (HO2'.out.lt k hk).1))
            clear hown hgrow
            go_wp2
            go_roundw
            case rel =>
                  have := HI.out
                  exact ⟨_, L6, q + 1, rfl, by congr 1; omega, by omega, Hstep.out.symm, HO7.out, HB7.out⟩
            case measure => simp [intOf]
          ·have hv2 : X / 281474976710656 = (bb.toNat : Int) := by
            have := Hval.out
            simp only [Int.reducePow, Int.reduceToNat, Int.ediv_one, Int.pow_zero] at this
            omega
           have Hv2 := lh hv2
           clear hv2
           go_wp2_with (at_builtin; go_must (refine Al _ rfl _ _ _ _ rfl A8 w.heap.size (.slice a5 l2.length c5) l2.length (byV l2) rfl ?own (.slice (some ⟨wr.heap.size, 0, none⟩) 1 1) 1 [.int .u8 (X / 281474976710656)] rfl ?src L6.length Hl6.out (byV L6) ?hz ?h63 ?hby ?hba ?go))
           case own => exact HO2'.out.ext ((Ext.refl (fun _ => False) _).alloc _) (fun _ _ h => h)
           case src => exact CJ underlying100 rfl
           case hz => rw [HL6.out, Ao, Hv2.out]; rfl
           case h63 => unfold maxLen; omega
           case hby => omega
           case hba => simp; omega
           case go =>
            intro a7 c7 w7 hown hgrow _
            have HO7 := lh hown.bytes
            have HB7 := lh (Bl.grown (HB2'.out.alloc hzr2 _) hgrow (fun k hk => (HO2'.out.lt k hk).1))
            clear hown hgrow
            go_wp2
            go_roundw
            case rel =>
                  have := HI.out
                  exact ⟨_, L6, q + 1, rfl, by congr 1; omega, by omega, Hstep.out.symm, HO7.out, HB7.out⟩
            case measure => simp [intOf]
          ·have hv2 : X / 1099511627776 % 256 = (bb.toNat : Int) := by
            have := Hval.out
            simp only [Int.reducePow, Int.reduceToNat, Int.ediv_one, Int.pow_zero] at this
            omega
           have Hv2 := lh hv2
           clear hv2
           go_wp2_with (at_builtin; go_must (refine Al _ rfl _ _ _ _ rfl A8 w.heap.size (.slice a5 l2.length c5) l2.length (byV l2) rfl ?own (.slice (some ⟨wr.heap.size, 0, none⟩) 1 1) 1 [.int .u8 (X / 1099511627776 % 256)] rfl ?src L6.length Hl6.out (byV L6) ?hz ?h63 ?hby ?hba ?go))
           case own => exact HO2'.out.ext ((Ext.refl (fun _ => False) _).alloc _) (fun _ _ h => h)
           case src => exact CJ underlying100 rfl
           case hz => rw [HL6.out, Ao, Hv2.out]; rfl
           case h63 => unfold maxLen; omega
           case hby => omega
           case hba => simp; omega
           case go =>
            intro a7 c7 w7 hown hgrow _
            have HO7 := lh hown.bytes
            have HB7 := lh (Bl.grown (HB2'.out.alloc hzr2 _) hgrow (fun k hk => (HO2'.out.lt k hk).1))
            clear hown hgrow
            go_wp2
            go_roundw
            case rel =>
                  have := HI.out
                  exact ⟨_, L6, q + 1, rfl, by congr 1; omega, by omega, Hstep.out.symm, HO7.out, HB7.out⟩
            case measure => simp [intOf]
          ·have hv2 : X / 4294967296 % 256 = (bb.toNat : Int) := by
            have := Hval.out
            simp only [Int.reducePow, Int.reduceToNat, Int.ediv_one, Int.pow_zero] at this
            omega
           have Hv2 := lh hv2
           clear hv2
           go_wp2_with (at_builtin; go_must (refine Al _ rfl _ _ _ _ rfl A8 w.heap.size (.slice a5 l2.length c5) l2.length (byV l2) rfl ?own (.slice (some ⟨wr.heap.size, 0, none⟩) 1 1) 1 [.int .u8 (X / 4294967296 % 256)] rfl ?src L6.length Hl6.out (byV L6) ?hz ?h63 ?hby ?hba ?go))
           case own => exact HO2'.out.ext ((Ext.refl (fun _ => False) _).alloc _) (fun _ _ h => h)
           case src => exact CJ underlying100 rfl
           case hz => rw [HL6.out, Ao, Hv2.out]; rfl
           case h63 => unfold maxLen; omega
           case hby => omega
           case hba => simp; omega
           case go =>
            intro a7 c7 w7 hown hgrow _
            have HO7 := lh hown.bytes
            have HB7 := lh (Bl.grown (HB2'.out.alloc hzr2 _) hgrow (fun k hk => (HO2'.out.lt k hk).1))
            clear hown hgrow
            go_wp2
            go_roundw
            case rel =>
                  have := HI.out
                  exact ⟨_, L6, q + 1, rfl, by congr 1; omega, by omega, Hstep.out.symm, HO7.out, HB7.out⟩
            case measure => simp [intOf]
          ·have hv2 : X / 16777216 % 256 = (bb.toNat : Int) := by
            have := Hval.out
            simp only [Int.reducePow, Int.reduceToNat, Int.ediv_one, Int.pow_zero] at this
            omega
           have Hv2 := lh hv2
           clear hv2
           go_wp2_with (at_builtin; go_must (refine Al _ rfl _ _ _ _ rfl A8 w.heap.size (.slice a5 l2.length c5) l2.length (byV l2) rfl ?own (.slice (some ⟨wr.heap.size, 0, none⟩) 1 1) 1 [.int .u8 (X / 16777216 % 256)] rfl ?src L6.length Hl6.out (byV L6) ?hz ?h63 ?hby ?hba ?go))
           case own => exact HO2'.out.ext ((Ext.refl (fun _ => False) _).alloc _) (fun _ _ h => h)
           case src => exact CJ underlying100 rfl
           case hz => rw [HL6.out, Ao, Hv2.out]; rfl
           case h63 => unfold maxLen; omega
           case hby => omega
           case hba => simp; omega
           case go =>
            intro a7 c7 w7 hown hgrow _
            have HO7 := lh hown.bytes
            have HB7 := lh (Bl.grown (HB2'.out.alloc hzr2 _) hgrow (fun k hk => (HO2'.out.lt k hk).1))
            clear hown hgrow
            go_wp2
            go_roundw
            case rel =>
                  have := HI.out
                  exact ⟨_, L6, q + 1, rfl, by congr 1; omega, by omega, Hstep.out.symm, HO7.out, HB7.out⟩
            case measure => simp [intOf]
          ·have hv2 : X / 65536 % 256 = (bb.toNat : Int) := by
            have := Hval.out
            simp only [Int.reducePow, Int.reduceToNat, Int.ediv_one, Int.pow_zero] at this
            omega
           have Hv2 := lh hv2
           clear hv2
           go_wp2_with (at_builtin; go_must (refine Al _ rfl _ _ _ _ rfl A8 w.heap.size (.slice a5 l2.length c5) l2.length (byV l2) rfl ?own (.slice (some ⟨wr.heap.size, 0, none⟩) 1 1) 1 [.int .u8 (X / 65536 % 256)] rfl ?src L6.length Hl6.out (byV L6) ?hz ?h63 ?hby ?hba ?go))
           case own => exact HO2'.out.ext ((Ext.refl (fun _ => False) _).alloc _) (fun _ _ h => h)
           case src => exact CJ underlying100 rfl
           case hz => rw [HL6.out, Ao, Hv2.out]; rfl
           case h63 => unfold maxLen; omega
           case hby => omega
           case hba => simp; omega
           case go =>
            intro a7 c7 w7 hown hgrow _
            have HO7 := lh hown.bytes
            have HB7 := lh (Bl.grown (HB2'.out.alloc hzr2 _) hgrow (fun k hk => (HO2'.out.lt k hk).1))
            clear hown hgrow
            go_wp2
            go_roundw
            case rel =>
                  have := HI.out
                  exact ⟨_, L6, q + 1, rfl, by congr 1; omega, by omega, Hstep.out.symm, HO7.out, HB7.out⟩
            case measure => simp [intOf]
          ·have hv2 : X / 256 % 256 = (bb.toNat : Int) := by
            have := Hval.out
            simp only [Int.reducePow, Int.reduceToNat, Int.ediv_one, Int.pow_zero] at this
            omega
           have Hv2 := lh hv2
           clear hv2
           go_wp2_with (at_builtin; go_must (refine Al _ rfl _ _ _ _ rfl A8 w.heap.size (.slice a5 l2.length c5) l2.length (byV l2) rfl ?own (.slice (some ⟨wr.heap.size, 0, none⟩) 1 1) 1 [.int .u8 (X / 256 % 256)] rfl ?src L6.length Hl6.out (byV L6) ?hz ?h63 ?hby ?hba ?go))
           case own => exact HO2'.out.ext ((Ext.refl (fun _ => False) _).alloc _) (fun _ _ h => h)
           case src => exact CJ underlying100 rfl
           case hz => rw [HL6.out, Ao, Hv2.out]; rfl
           case h63 => unfold maxLen; omega
           case hby => omega
           case hba => simp; omega
           case go =>
            intro a7 c7 w7 hown hgrow _
            have HO7 := lh hown.bytes
            have HB7 := lh (Bl.grown (HB2'.out.alloc hzr2 _) hgrow (fun k hk => (HO2'.out.lt k hk).1))
            clear hown hgrow
            go_wp2
            go_roundw
            case rel =>
                  have := HI.out
                  exact ⟨_, L6, q + 1, rfl, by congr 1; omega, by omega, Hstep.out.symm, HO7.out, HB7.out⟩
            case measure => simp [intOf]
          ·have hv2 : X % 256 = (bb.toNat : Int) := by
            have := Hval.out
            simp only [Int.reducePow, Int.reduceToNat, Int.ediv_one, Int.pow_zero] at this
            omega
           have Hv2 := lh hv2
           clear hv2
           go_wp2_with (at_builtin; go_must (refine Al _ rfl _ _ _ _ rfl A8 w.heap.size (.slice a5 l2.length c5) l2.length (byV l2) rfl ?own (.slice (some ⟨wr.heap.size, 0, none⟩) 1 1) 1 [.int .u8 (X % 256)] rfl ?src L6.length Hl6.out (byV L6) ?hz ?h63 ?hby ?hba ?go))
           case own => exact HO2'.out.ext ((Ext.refl (fun _ => False) _).alloc _) (fun _ _ h => h)
           case src => exact CJ underlying100 rfl
           case hz => rw [HL6.out, Ao, Hv2.out]; rfl
           case h63 => unfold maxLen; omega
           case hby => omega
           case hba => simp; omega
           case go =>
            intro a7 c7 w7 hown hgrow _
            have HO7 := lh hown.bytes
            have HB7 := lh (Bl.grown (HB2'.out.alloc hzr2 _) hgrow (fun k hk => (HO2'.out.lt k hk).1))
            clear hown hgrow
            go_wp2
            go_roundw
            case rel =>
                  have := HI.out
                  exact ⟨_, L6, q + 1, rfl, by congr 1; omega, by omega, Hstep.out.symm, HO7.out, HB7.out⟩
            case measure => simp [intOf]
         ·obtain rfl : q = 8 := by omega
          go_wp2
          go_ret
          refine ⟨_, rfl, ?_, HB2'.out⟩
          have e : bl s ++ fill s.size = l2 := by
           rw [fill_eq, Hl2e.out, Hlb.out, HL1.out]
           simp only [List.append_assoc]
          rw [e]
          exact HO2'.out
end R2F
namespace R2W
open Go Go.RowKit U32 ShaS ShaT ShaW R2T Steps
attribute [local go_sem high] b_add IZ b_or b_and Ff b_shr3 b_shr10 b_mul256
def pw (b : List UInt8) (t : Nat) : Nat → UInt32
 | 0 => 0
 | r + 1 => pw b t r * 256 + UInt32.ofNat (b.getD (4 * t + r) 0).toNat
theorem Kw (b : List UInt8) (t r : Nat) : pw b t (r + 1) = pw b t r * 256 + UInt32.ofNat (b.getD (4 * t + r) 0).toNat := rfl
theorem Ky (b : List UInt8) (t : Nat) : pw b t 4 = Gy (b.getD (4 * t) 0) (b.getD (4 * t + 1) 0) (b.getD (4 * t + 2) 0) (b.getD (4 * t + 3) 0) := by
 have h0 := (b.getD (4 * t) 0).toNat_lt
 have h1 := (b.getD (4 * t + 1) 0).toNat_lt
 have h2 := (b.getD (4 * t + 2) 0).toNat_lt
 have h3 := (b.getD (4 * t + 3) 0).toNat_lt
 simp only [pw, Gy]
 apply UInt32.toNat_inj.1
 simp only [UInt32.toNat_add, UInt32.toNat_mul, UInt32.toNat_ofNat', show (256 : UInt32).toNat = 256 from rfl, show (0 : UInt32).toNat = 0 from rfl, Nat.add_zero]
 omega
theorem Lj {b : List UInt8} {t : Nat} (h : t < 16) : wN b (t + 1) = wN b t ++ [pw b t 4] := by
 rw [Ky, wN, if_pos h]
theorem Jo {n : Nat} {l : List UInt32} (h : l.length < n) : ShaW.part n (l ++ [0]) = ShaW.part n l := by
 unfold ShaW.part
 have e : n - l.length = (n - (l ++ [(0 : UInt32)]).length) + 1 := by simp; omega
 rw [e, List.replicate_succ]
 simp
theorem KJ {n : Nat} {b : List UInt8} {t : Nat} {x : UInt32} (h : t < n) : (ShaW.part n (wN b t ++ [x]))[t]? = some (V x) := by
 have := Dt (n := n) (l := wN b t ++ [x]) (i := t) (by simp [BS])
 rw [this, List.getD_eq_getElem?_getD, List.getElem?_append_right (by simp [BS])]
 simp [BS]
theorem Kz {n : Nat} {l : List UInt32} (h : l.length < n) (x y : UInt32) : (ShaW.part n (l ++ [x])).setIfInBounds l.length (V y) = ShaW.part n (l ++ [y]) := by
 unfold ShaW.part wV
 rw [List.setIfInBounds_toArray]
 congr 1
 simp
theorem words_ok (w : World) (v : Value) (b : List UInt8) (hb : b.length = 64) (hv : Sl w v 1 64 (byV b)) :
 Calls Tryz.prog 119 #[v] w fun e w' => e = .returned (.agg (wV (ShaS.words b)).toArray) ∧ Below w.heap.size w w' := by
 obtain ⟨a, cap, rfl, hcap, hm⟩ := hv.form
 obtain ⟨B, off, rfl, hBl, hcell⟩ := hv.plain (by rw [AZ]; omega)
 have hcell' : ∀ j, j < 64 → w.cell? ⟨B, off + j, none⟩ = some (.int .u8 ((b.getD j 0).toNat : Int)) := by
  intro j hj
  refine hcell j _ ?_
  unfold byV
  rw [List.getElem?_map, List.getElem?_eq_getElem (by omega), List.getD_eq_getElem?_getD, List.getElem?_eq_getElem (by omega)]
  rfl
 have Hcell := lh hcell'
 have hcap' : (64 : Nat) ≤ cap := hcap
 clear hv hcell hcell'
 obtain ⟨W0, hW0⟩ := nXe ((w.alloc (.cells zL4 164)).alloc (.cells zL4 164))
 have hz : (zL4 : Array Value) = ShaW.part 64 [] := by kernel_rfl
 have hB0 : Below w.heap.size w W0 := by rw [hW0]; exact ((Below.refl _ w).alloc nR _).alloc (by simp) _
 have hx0 : W0.heap[w.heap.size]? = some (.cells (ShaW.part 64 []) 164 (0, 0)) := by rw [hW0, hz]; exact Ak (AL _ _) _
 have hy0 : W0.heap[w.heap.size + 1]? = some (.cells (ShaW.part 64 []) 164 (0, 0)) := by rw [hW0, hz]; exact Ad _ (by simp)
 obtain ⟨HB0, HW0⟩ := l2h hB0 hW0
 clear hB0 hW0 hz
 go_enter func119, ntmps119
 go_wp2
 go_loopw [4] (fun i wr => ∃ t : Nat, i = .int .i64 t ∧ t ≤ 16 ∧ wr.heap[w.heap.size]? = some (.cells (ShaW.part 64 []) 164 (0, 0)) ∧ wr.heap[w.heap.size + 1]? = some (.cells (ShaW.part 64 (wN b t)) 164 (0, 0)) ∧ Below w.heap.size w wr) (fun i _ => 16 - (intOf i).toNat)
 case atStart =>
  rw [← HW0.out]
  exact ⟨0, rfl, by omega, hx0, hy0, HB0.out⟩
 case round =>
  obtain ⟨t, rfl, ht, hx, hy, hb2⟩ := hrel
  clear hx0 hy0
  have hwl := BS b t
  obtain ⟨Hx, Hy, HB⟩ := l3h hx hy hb2
  have hyl := AJ hy
  clear hx hb2
  by_cases hlt : t < 16
  ·clear hy
   go_wp2
   obtain ⟨wo, rfl⟩ : ∃ wo : World, wo = wr := ⟨_, rfl⟩
   rw [show decide ((t : Int) < 16) = true from dT (by omega)]
   go_loopw [5] (fun i wr => ∃ r : Nat, i = .int .i64 r ∧ r ≤ 4 ∧ wr.heap[w.heap.size]? = some (.cells (ShaW.part 64 []) 164 (0, 0)) ∧ wr.heap[w.heap.size + 1]? = some (.cells (ShaW.part 64 (wN b t ++ [pw b t r])) 164 (0, 0)) ∧ Below w.heap.size w wr) (fun i _ => 4 - (intOf i).toNat)
   case atStart => exact ⟨0, rfl, by omega, Hx.out, by rw [pw, Jo (by omega)]; exact Hy.out, HB.out⟩
   case round =>
        obtain ⟨r, rfl, hr, hx, hy, hb2⟩ := hrel
        obtain ⟨Hx4, Hy4, HB4⟩ := l3h hx hy hb2
        have hyl4 := AJ hy
        clear hx hb2
        by_cases hlt4 : r < 4
        ·obtain ⟨P, hP⟩ := nXe (pw b t r)
         obtain ⟨Y, hY⟩ := nXe (b.getD (4 * t + r) 0)
         obtain ⟨Z, hZ⟩ := nXe (UInt32.ofNat Y.toNat)
         have hn := Kw b t r
         rw [← hP, ← hY, ← hZ] at hn
         have c0 : wr.cell? ⟨B, off + (4 * t + r), none⟩ = some (.int .u8 (Y.toNat : Int)) := by rw [HB4.out.cell (p := ⟨B, off + (4 * t + r), none⟩) hBl, Hcell.out (4 * t + r) (by omega), hY]
         have cs : wr.cell? ⟨w.heap.size + 1, t, none⟩ = some (.int .u32 (u P)) := by rw [AO hy, KJ (by omega), hP]
         have cf : wr.frozen? ⟨w.heap.size + 1, t, none⟩ = false := BK hy
         have hset : (ShaW.part 64 (wN b t ++ [pw b t r])).setIfInBounds t (V (P * 256 + Z)) = ShaW.part 64 (wN b t ++ [pw b t (r + 1)]) := by
          rw [hn]
          have := Kz (n := 64) (l := wN b t) (by omega) (pw b t r) (P * 256 + Z)
          rw [BS] at this
          exact this
         have x0 : IntKind.u32.wrap (Y.toNat : Int) = u Z := by
          rw [hZ, IntKind.wrap_u32']
          have := Y.toNat_lt
          unfold u
          rw [UInt32.toNat_ofNat']
          omega
         have Hset := lh hset
         clear hy hn hP hY hZ hset hwl
         have v0 : IntKind.i64.wrap (4 * (t : Int)) = 4 * (t : Int) := IntWalk.i64_in _ (by omega)
         have v1 : IntKind.i64.wrap (4 * (t : Int) + (r : Int)) = 4 * (t : Int) + (r : Int) := IntWalk.i64_in _ (by omega)
         have n1 : (4 * (t : Int) + (r : Int)).toNat = 4 * t + r := by omega
         have n2 : ((t : Int)).toNat = t := by omega
         have g1 : 0 ≤ 4 * (t : Int) + (r : Int) ∧ 4 * (t : Int) + (r : Int) < 64 := by omega
         have gt : 0 ≤ (t : Int) ∧ (t : Int) < 64 := by omega
         go_wp2
         go_still_tail 15, (by kernel_rfl)
         clear v0 v1 n1 n2 x0 g1 gt
         go_wp2
         go_roundw
         case rel =>
          refine ⟨r + 1, by go_num, by omega, (AX (w := wr) (b := w.heap.size + 1) (j := t) _ (by omega)).trans Hx4.out, ?_, (HB4.out.setCell (p := ⟨w.heap.size + 1, t, none⟩) (by simp) _).drew⟩
          rw [← Hset.out]
          exact heap_setCell_same Hy4.out _
         case measure => simp [intOf]; omega
        ·obtain rfl : r = 4 := by omega
         clear hlt4 hy
         go_wp2
         go_roundw
         case rel =>
          refine ⟨t + 1, by go_num, by omega, Hx4.out, ?_, HB4.out⟩
          rw [Lj hlt]
          exact Hy4.out
         case measure => simp [intOf]; omega
  ·obtain rfl : t = 16 := by omega
   clear hlt hwl hy
   go_wp2
   obtain ⟨wo, rfl⟩ : ∃ wo : World, wo = wr := ⟨_, rfl⟩
   rw [show ((16 : Nat) : Int) = 16 from rfl]
   go_loopw [6] (fun i wq => ∃ r : Nat, i = .int .i64 ((r : Int) + 16) ∧ r ≤ 48 ∧ wq.heap[w.heap.size]? = some (.cells (ShaW.part 64 []) 164 (0, 0)) ∧ wq.heap[w.heap.size + 1]? = some (.cells (ShaW.part 64 (wN b (r + 16))) 164 (0, 0)) ∧ Below w.heap.size w wq) (fun i _ => 64 - (intOf i).toNat)
   case atStart => exact ⟨0, rfl, by omega, Hx.out, Hy.out, HB.out⟩
   case round =>
        obtain ⟨r, rfl, hr, hx, hy, hb2⟩ := hrel
        have hwl := BS b (r + 16)
        obtain ⟨Hx2, Hy2, HB2⟩ := l3h hx hy hb2
        have hyl2 := AJ hy
        clear hx hb2
        by_cases hlt : r < 48
        ·obtain ⟨X, hX⟩ := nXe ((wN b (r + 16)).getD (r + 1) 0)
         obtain ⟨Y, hY⟩ := nXe ((wN b (r + 16)).getD (r + 14) 0)
         obtain ⟨A, hA⟩ := nXe ((wN b (r + 16)).getD r 0)
         obtain ⟨C, hC⟩ := nXe ((wN b (r + 16)).getD (r + 9) 0)
         have c0 : wr.cell? ⟨w.heap.size + 1, r + 1, none⟩ = some (.int .u32 (u X)) := by rw [AO hy, Dt (by omega), hX]
         have c1 : wr.cell? ⟨w.heap.size + 1, r + 14, none⟩ = some (.int .u32 (u Y)) := by rw [AO hy, Dt (by omega), hY]
         have c2 : wr.cell? ⟨w.heap.size + 1, r, none⟩ = some (.int .u32 (u A)) := by rw [AO hy, Dt (by omega), hA]
         have c3 : wr.cell? ⟨w.heap.size + 1, r + 9, none⟩ = some (.int .u32 (u C)) := by rw [AO hy, Dt (by omega), hC]
         have cs : wr.cell? ⟨w.heap.size + 1, r + 16, none⟩ = some (.int .u32 (u 0)) := by rw [AO hy]; exact part_rest (by omega) (by omega)
         have cf : wr.frozen? ⟨w.heap.size + 1, r + 16, none⟩ = false := BK hy
         have hval : nextW (wN b (r + 16)) (r + 16) = A + (rotr X 7 ^^^ rotr X 18 ^^^ X >>> 3) + C + (rotr Y 17 ^^^ rotr Y 19 ^^^ Y >>> 10) := by
          unfold nextW
          rw [show r + 16 - 15 = r + 1 by omega, show r + 16 - 2 = r + 14 by omega, show r + 16 - 16 = r by omega, show r + 16 - 7 = r + 9 by omega, ← hX, ← hY, ← hA, ← hC]
         have Hval := lh hval
         clear hy hval hX hY hA hC hwl
         have v0 : IntKind.i64.wrap ((r : Int) + 16 - 15) = (r : Int) + 1 := (IntWalk.i64_in _ (by omega)).trans (by omega)
         have v1 : IntKind.i64.wrap ((r : Int) + 16 - 2) = (r : Int) + 14 := (IntWalk.i64_in _ (by omega)).trans (by omega)
         have v2 : IntKind.i64.wrap ((r : Int) + 16 - 16) = (r : Int) := (IntWalk.i64_in _ (by omega)).trans (by omega)
         have v3 : IntKind.i64.wrap ((r : Int) + 16 - 7) = (r : Int) + 9 := (IntWalk.i64_in _ (by omega)).trans (by omega)
         have v4 : IntKind.i64.wrap (r : Int) = (r : Int) := IntWalk.i64_in _ (by omega)
         have n0 : ((r : Int) + 1).toNat = r + 1 := by omega
         have n2 : ((r : Int)).toNat = r := by omega
         have n1 : ((r : Int) + 14).toNat = r + 14 := by omega
         have n3 : ((r : Int) + 9).toNat = r + 9 := by omega
         have n4 : ((r : Int) + 16).toNat = r + 16 := by omega
         have g0 : 0 ≤ (r : Int) + 1 ∧ (r : Int) + 1 < 64 := by omega
         have g1 : 0 ≤ (r : Int) + 14 ∧ (r : Int) + 14 < 64 := by omega
         have g2 : 0 ≤ (r : Int) ∧ (r : Int) < 64 := by omega
         have g3 : 0 ≤ (r : Int) + 9 ∧ (r : Int) + 9 < 64 := by omega
         have g4 : 0 ≤ (r : Int) + 16 ∧ (r : Int) + 16 < 64 := by omega
         go_wp2
         go_quiet (fail)
         go_wp2_with fail
         refine (KX _ X).mono ?_
         rintro e w' ⟨rfl, nX7, rfl⟩
         go_wp2_with fail
         refine (KA _ X).mono ?_
         rintro e w' ⟨rfl, ML, rfl⟩
         go_wp2_with fail
         refine (KF _ X).mono ?_
         rintro e w' ⟨rfl, rfl⟩
         go_wp2_with fail
         refine (KC _ Y).mono ?_
         rintro e w' ⟨rfl, MK, rfl⟩
         go_wp2_with fail
         refine (J9 _ Y).mono ?_
         rintro e w' ⟨rfl, MJ, rfl⟩
         go_wp2_with fail
         refine (Jn _ Y).mono ?_
         rintro e w' ⟨rfl, rfl⟩
         go_wp2
         obtain ⟨wq, hwq⟩ := nXe (wr.drewN (nq + nX7 + ML + MK + MJ))
         have d2 : wq.cell? ⟨w.heap.size + 1, r, none⟩ = some (.int .u32 (u A)) := by rw [hwq]; exact c2
         have d3 : wq.cell? ⟨w.heap.size + 1, r + 9, none⟩ = some (.int .u32 (u C)) := by rw [hwq]; exact c3
         have ds : wq.cell? ⟨w.heap.size + 1, r + 16, none⟩ = some (.int .u32 (u 0)) := by rw [hwq]; exact cs
         have df : wq.frozen? ⟨w.heap.size + 1, r + 16, none⟩ = false := by rw [hwq]; exact cf
         have Hx3 : Hid (wq.heap[w.heap.size]? = some (.cells (ShaW.part 64 []) 164 (0, 0))) := by rw [hwq]; exact Hx2
         have Hy3 : Hid (wq.heap[w.heap.size + 1]? = some (.cells (ShaW.part 64 (wN b (r + 16))) 164 (0, 0))) := by rw [hwq]; exact Hy2
         have HB3 : Hid (Below w.heap.size w wq) := by rw [hwq]; exact lh (Bl.drewN HB2.out _)
         rw [← hwq]
         clear hwq c0 c1 c2 c3 cs cf Hx2 Hy2 HB2
         go_still_tail 15, (by kernel_rfl)
         clear v0 v1 v2 v3 v4 n0 n1 n2 n3 g0 g1 g2 g3
         go_wp2
         go_roundw
         case rel =>
          refine ⟨r + 1, by go_num, by omega, (AX (w := wq) (b := w.heap.size + 1) (j := r + 16) _ (by omega)).trans Hx3.out, ?_, (HB3.out.setCell (p := ⟨w.heap.size + 1, r + 16, none⟩) (by simp) _).drew⟩
          rw [show r + 1 + 16 = r + 16 + 1 by omega, wN, if_neg (by omega), Hval.out, ← part_set (by rw [BS]; omega), BS]
          exact heap_setCell_same Hy3.out _
         case measure => simp [intOf]; omega
        ·obtain rfl : r = 48 := by omega
         have hsz : (ShaW.part 64 (ShaS.words b)).size = 64 := GH (by rw [DZ]; omega)
         have hy' : wr.heap[w.heap.size + 1]? = some (.cells (ShaW.part 64 (ShaS.words b)) 164 (0, 0)) := hy
         have hfull : ShaW.part 64 (ShaS.words b) = (wV (ShaS.words b)).toArray := part_full (DZ b)
         have Hy3 := lh hy'
         have hi : (Tryz.prog.info? 164).map (·.size) = some 64 := by kernel_rfl
         clear hlt hwl hy hy' Hy2
         generalize hP : ShaW.part 64 (ShaS.words b) = p at Hy3 hsz hfull
         have hone : p.all (·.oneCell') = true := by rw [hfull]; exact wV_one _
         clear hP
         obtain ⟨Hone, Hfull⟩ := l2h hone hfull
         clear hone hfull
         go_wp2_with (first
          | refine wpList_load_row rfl _ _ rfl (w.heap.size + 1) rfl _ p (0, 0) _ Hy3.out underlying164 rfl (by rw [hsz]; exact hi) ?_
          | refine wpList_store_row rfl _ _ _ rfl w.heap.size p rfl rfl _ _ Hx2.out (by rw [hsz]; exact hi) (by rw [hsz]; exact GH (by simp)) Hone.out ?_)
         go_wp2
         refine bodyPost_ret (v := .agg p) (results_cell_row rfl _ _ w.heap.size _ p (0, 0) _ rfl (AR Hx2.out) underlying164 rfl (by rw [hsz]; exact hi)) rfl ⟨by rw [Hfull.out], AQ HB2.out nR _⟩
end R2W
namespace R2K
open Go Go.RowKit U32 ShaS ShaW ShaA ShaB ShaM R2T R2F R2W OctP Steps
attribute [local go_sem high] b_add IZ b_or b_and Ff
theorem I1 (w : World) (x : UInt32) (n : Int) (h : n = 2 ∨ n = 6 ∨ n = 11 ∨ n = 13 ∨ n = 22 ∨ n = 25) : Calls Tryz.prog 120 #[.int .u32 (u x), .int .i64 n] w fun e w' => e = .returned (.int .u32 (u (rotr x n.toNat))) ∧ ∃ m, w' = w.drewN m := by
 rcases h with rfl | rfl | rfl | rfl | rfl | rfl
 ·exact KZ w x
 ·exact KY w x
 ·exact KE w x
 ·exact KD w x
 ·exact J8 w x
 ·exact J7 w x
theorem JV (w : World) : Calls Tryz.prog 118 #[] w fun e w' => e = .returned (.agg (wV kL).toArray) ∧ Below w.heap.size w w' := by
 have hp : (#[.int .u32 1116352408, .int .u32 1899447441, .int .u32 3049323471, .int .u32 3921009573, .int .u32 961987163, .int .u32 1508970993, .int .u32 2453635748, .int .u32 2870763221, .int .u32 3624381080, .int .u32 310598401, .int .u32 607225278, .int .u32 1426881987, .int .u32 1925078388, .int .u32 2162078206, .int .u32 2614888103, .int .u32 3248222580, .int .u32 3835390401, .int .u32 4022224774, .int .u32 264347078, .int .u32 604807628, .int .u32 770255983, .int .u32 1249150122, .int .u32 1555081692, .int .u32 1996064986, .int .u32 2554220882, .int .u32 2821834349, .int .u32 2952996808, .int .u32 3210313671, .int .u32 3336571891, .int .u32 3584528711, .int .u32 113926993, .int .u32 338241895, .int .u32 666307205, .int .u32 773529912, .int .u32 1294757372, .int .u32 1396182291, .int .u32 1695183700, .int .u32 1986661051, .int .u32 2177026350, .int .u32 2456956037, .int .u32 2730485921, .int .u32 2820302411, .int .u32 3259730800, .int .u32 3345764771, .int .u32 3516065817, .int .u32 3600352804, .int .u32 4094571909, .int .u32 275423344, .int .u32 430227734, .int .u32 506948616, .int .u32 659060556, .int .u32 883997877, .int .u32 958139571, .int .u32 1322822218, .int .u32 1537002063, .int .u32 1747873779, .int .u32 1955562222, .int .u32 2024104815, .int .u32 2227730452, .int .u32 2361852424, .int .u32 2428436474, .int .u32 2756734187, .int .u32 3204031479, .int .u32 3329325298] : Array Value) = (wV kL).toArray := by kernel_rfl
 have hsz : (wV kL).toArray.size = 64 := by kernel_rfl
 have hi : (Tryz.prog.info? 164).map (·.size) = some 64 := by kernel_rfl
 have hone := wV_one kL
 obtain ⟨p, hpp⟩ := nXe ((wV kL).toArray)
 rw [← hpp] at hp hsz hone ⊢
 obtain ⟨Hp, Hi, Hsz, Hone⟩ := l4h hp hi hsz hone
 clear hp hsz hi hone hpp
 go_enter func118, ntmps118
 go_wp2_with (refine AC rfl _ _ _ rfl w.heap.size p rfl (by rw [← Hp.out]; rfl) _ _ (AL w _) (by rw [Hsz.out]; exact Hi.out) (by rw [Hsz.out]; rfl) Hone.out ?_)
 intro w2 hw2
 go_wp2
 refine bodyPost_ret (v := .agg p) (results_cell_row rfl _ _ w.heap.size 164 p (0, 0) _ rfl (by rw [hw2.out]; exact AR (AL w _)) underlying164 rfl (by rw [Hsz.out]; exact Hi.out)) rfl ⟨rfl, by rw [hw2.out]; exact AQ ((Below.refl _ w).alloc nR _) nR _⟩
theorem MC {y : List UInt32} (h8 : y.length = 8) {g j : Nat} (hg : g < 8) (hj : j < 4) : (y.flatMap be).getD (4 * g + j) 0 = UInt8.ofNat ((y.getD g 0).toNat / 2 ^ (24 - 8 * j)) := by
 obtain ⟨a0, a1, a2, a3, a4, a5, a6, a7, rfl⟩ := list8 h8
 have hg' : g = 0 ∨ g = 1 ∨ g = 2 ∨ g = 3 ∨ g = 4 ∨ g = 5 ∨ g = 6 ∨ g = 7 := by omega
 have hj' : j = 0 ∨ j = 1 ∨ j = 2 ∨ j = 3 := by omega
 rcases hj' with rfl | rfl | rfl | rfl <;> rcases hg' with rfl | rfl | rfl | rfl | rfl | rfl | rfl | rfl <;> simp [be]
theorem K4 {L : List UInt8} (hL : L.length = 32) {i : Nat} (hi : i < 32) : (pB 32 (L.take i)).setIfInBounds i (.int .u8 ((L.getD i 0).toNat : Int)) = pB 32 (L.take (i + 1)) := by
 have := pB_set (n := 32) (l := L.take i) (by rw [List.length_take]; omega) (L.getD i 0)
 rw [List.length_take, hL, Nat.min_eq_left (by omega)] at this
 rw [this]
 congr 1
 rw [List.take_add_one, List.getElem?_eq_getElem (by omega), List.getD_eq_getElem?_getD, List.getElem?_eq_getElem (by omega)]
 rfl
structure At (w0 : World) (kb : Nat) (P : List UInt8) (q : Nat) (v : Value) (w : World) : Prop where
 row : w.heap[w0.heap.size]? = some (.cells (pB 32 []) 44 (0, 0))
 vec : w.heap[w0.heap.size + 1]? = some (.cells (wV (acc Bz P q)).toArray 141 (0, 0))
 con : w.heap[kb]? = some (.cells (wV kL).toArray 164 (0, 0))
 bel : Below w0.heap.size w0 w
 own : ∀ j, v.ownBlock = some j → w0.heap.size + 2 ≤ j
 sl : ∃ n, Sl w v 1 n (byV (P.drop (64 * q))) ∧ n = P.length - 64 * q
end R2K
namespace R2M
open Go Go.RowKit U32 ShaS ShaW ShaA ShaB ShaM R2T R2F R2W R2K OctP Steps
attribute [local go_sem high] b_add IZ b_or b_and Ff
theorem Ee (w : World) (s : ByteArray) (hs : s.size ≤ 140737488351232) :
 Calls Tryz.prog 98 #[.string s] w fun e w' => e = .returned (.agg (pB 32 (ShaS.sum (bl s)))) ∧ Below w.heap.size w w' := by
 obtain ⟨W0, hW0⟩ := nXe ((w.alloc (.cells zl0 44)).alloc (.cells #[.int .u32 1779033703, .int .u32 3144134277, .int .u32 1013904242, .int .u32 2773480762, .int .u32 1359893119, .int .u32 2600822924, .int .u32 528734635, .int .u32 1541459225] 141))
 have hB0 : Below w.heap.size w W0 := by rw [hW0]; exact ((Below.refl _ w).alloc nR _).alloc (by simp) _
 have hx0 : W0.heap[w.heap.size]? = some (.cells (pB 32 []) 44 (0, 0)) := by rw [hW0]; exact Ak (AL _ _) _
 have hv0 : W0.heap[w.heap.size + 1]? = some (.cells (wV Bz).toArray 141 (0, 0)) := by rw [hW0]; exact Ad _ (by simp)
 have hF := KN W0 s hs
 obtain ⟨P, hP⟩ := nXe (pad (bl s))
 have hPm : P.length % 64 = 0 := by rw [hP]; exact Gh _
 have hPl : P.length ≤ s.size + 200 := by rw [hP, pad, List.length_append, Ej, AP]; omega
 have hpd : bl s ++ fill s.size = P := by rw [hP, pad, AP]
 rw [hpd] at hF
 have hi : (Tryz.prog.info? 44).map (·.size) = some 32 := by kernel_rfl
 have hi8 : (Tryz.prog.info? 141).map (·.size) = some 8 := by kernel_rfl
 have Ls : (Tryz.prog.info? 164).map (·.size) = some 64 := by kernel_rfl
 have ho := wV_one kL
 have hks : (wV kL).toArray.size = 64 := by kernel_rfl
 obtain ⟨Hks, Ho, Hi, Hi8, Le, HP, HF, HB0, HW0⟩ := l9h hks ho hi hi8 Ls hP hF hB0 hW0
 have MO := AJ hx0
 have MQ := AJ hv0
 obtain ⟨Hx0, Hv0⟩ := l2h hx0 hv0
 clear hi hi8 Ls hP hF hpd hB0 hW0 hx0 hv0 ho hks
 obtain ⟨kp, hkp⟩ := nXe ((wV kL).toArray)
 rw [← hkp] at Ho Hks
 have Hkp := lh hkp
 clear hkp
 go_enter func98, ntmps98
 go_wp2_with fail
 rw [← HW0.out]
 refine HF.out.mono ?_
 rintro e w1 ⟨v', rfl, hov, hb1⟩
 obtain ⟨a4, c4, rfl, hn4, hm4⟩ := hov.form
 have hob : ∀ j, (Value.slice a4 P.length c4).ownBlock = some j → w.heap.size + 2 ≤ j := fun j h => by
  have := (hov.lt j (by rw [← h])).1
  omega
 obtain ⟨Hov, Hob⟩ := l2h hov.sl hob
 have HB1 := tbB HB0 hb1
 obtain ⟨Hx1, Hv1⟩ := l2h ((hb1.block _ MO).trans Hx0.out) ((hb1.block _ MQ).trans Hv0.out)
 have MN := AJ Hx1.out
 have MP := AJ Hv1.out
 obtain ⟨n0, hn0⟩ := nXe (P.length)
 have Hn0 := lh hn0
 have hn1 : n0 ≤ P.length := by omega
 have hn2 : P.length ≤ n0 := by omega
 rw [← hn0] at hn4 Hov Hob ⊢
 clear hov hob hb1 hn0
 go_wp2_with fail
 refine (JV w1).mono ?_
 rintro e w2 ⟨rfl, hb2⟩
 have HB2 := tbB HB1 hb2
 obtain ⟨Hx2, Hv2, Me⟩ := l3h ((hb2.block _ MN).trans Hx1.out) ((hb2.block _ MP).trans Hv1.out) (Hov.out.below hb2)
 have MM := AJ Hx2.out
 have hvl2 := AJ Hv2.out
 clear hb2
 rw [← Hkp.out]
 go_wp2_with (refine AC rfl _ _ _ rfl w2.heap.size kp rfl rfl _ _ (AL w2 (.cells zL4 164)) (by rw [Hks.out]; exact Le.out) (by rw [Hks.out]; rfl) Ho.out ?_)
 intro w3 hw3
 have hb3 : Below w2.heap.size w2 w3 := by rw [hw3.out]; exact AQ ((Below.refl _ w2).alloc nR _) nR _
 have hk3 : w3.heap[w2.heap.size]? = some (.cells (wV kL).toArray 164 (0, 0)) := by rw [hw3.out, ← Hkp.out]; exact AR (AL w2 _)
 have hAt : At w w2.heap.size P 0 (.slice a4 n0 c4) w3 := by
  refine ⟨(hb3.block _ MM).trans Hx2.out, (hb3.block _ hvl2).trans Hv2.out, hk3, HB2.out.trans (hb3.mono HB2.out.size), Hob.out, n0, ?_, by omega⟩
  rw [Nat.mul_zero, List.drop_zero]
  exact Me.out.below hb3
 have HAt := lh hAt
 clear hAt hb3 hk3 hw3
 go_wp2
 go_loopw [4] (fun x wr => ∃ (v : Value) (q : Nat), x = v ∧ 64 * q ≤ P.length ∧ At w w2.heap.size P q v wr) (fun x _ => sizeV x)
 case atStart => exact ⟨_, 0, rfl, by omega, HAt.out⟩
 case round =>
  obtain ⟨v, q, rfl, hq, hA⟩ := hrel
  obtain ⟨n, hsl, hn⟩ := hA.sl
  obtain ⟨a, c, rfl, hnc, hcm⟩ := hsl.form
  obtain ⟨Hown, Hr, Hv, Hk, HB, Hsl⟩ := l6h hA.own hA.row hA.vec hA.con hA.bel hsl
  have hr1 := AJ hA.row
  have hr2 := AJ hA.vec
  have hr3 := AJ hA.con
  have hn3 : n + 64 * q ≤ P.length := by omega
  have hn4' : P.length ≤ n + 64 * q := by omega
  clear hA hsl hn HAt
  by_cases hpos : 0 < n
  ·have hn64 : 64 ≤ n := by omega
   obtain ⟨blk, hblk⟩ := nXe ((P.drop (64 * q)).take 64)
   have hbl : blk.length = 64 := by rw [hblk, List.length_take, List.length_drop]; omega
   obtain ⟨B, off, rfl, hBl, hcell⟩ := Hsl.out.plain (by rw [AZ, List.length_drop]; omega)
   have htk := Hsl.out.take hn64
   have hWd := R2W.words_ok wr _ blk hbl (by
        rw [hblk]
        unfold byV at htk ⊢
        rw [List.map_take]
        exact htk)
   have hBn : w.heap.size + 2 ≤ B := Hown.out B rfl
   have hx8 := Ed (v := Bz) rfl P q
   have hadd : addB (acc Bz P q) blk = mixL (acc Bz P q) (Cv (acc Bz P q) (ShaS.words blk) 64) 8 := by
        rw [mix_full hx8 (Br hx8 _ 64)]
        rfl
   have hac : acc Bz P (q + 1) = addB (acc Bz P q) blk := by rw [acc, hblk]
   have hwl : (ShaS.words blk).length = 64 := DZ blk
   have LD : ((byV (P.drop (64 * q))).take (n * 1)).drop (64 * 1) = byV (P.drop (64 * (q + 1))) := by
        rw [List.take_of_length_le (by rw [AZ, List.length_drop]; omega)]
        unfold byV
        rw [← List.map_drop, List.drop_drop, show 64 * q + 64 * 1 = 64 * (q + 1) by omega]
   obtain ⟨ws, hws⟩ := nXe (ShaS.words blk)
   rw [← hws] at hWd hadd hwl
   obtain ⟨ac, hacq⟩ := nXe (acc Bz P q)
   rw [← hacq] at hx8 hadd hac Hv
   obtain ⟨o0, o1, o2, o3, o4, o5, o6, o7, rfl⟩ := list8 hx8
   have hone := wV_one ws
   have hsz : (wV ws).toArray.size = 64 := by simp [wV_length, hwl]
   obtain ⟨p, hp⟩ := nXe ((wV ws).toArray)
   rw [← hp] at hWd hone hsz
   obtain ⟨Hp, Hone, Hsz, HWd, HAdd, Hac, HC0⟩ := l7h hp hone hsz hWd hadd hac LD
   clear htk hWd hblk hcell LD hp hone hsz hws hacq hadd hac
   have hc64 : (c = 64 ∧ n = 64) ∨ (¬ c = 64 ∧ ¬ c ≤ 64) := by
        rcases Classical.em (c = 64) with h | h
        ·exact .inl ⟨h, by omega⟩
        ·exact .inr ⟨h, by omega⟩
   rcases hc64 with ⟨rfl, rfl⟩ | ⟨hc1, hc2⟩
   ·have hcut := Hsl.out.cut (k := 64) (m := 64) (A := ⟨B, off, none⟩) hn64 nR (by simp)
    rw [HC0.out] at hcut
    have Hcut := lh hcut
    clear hcut
    go_wp2_with fail
    refine HWd.out.mono ?_
    rintro e w5 ⟨rfl, hb5⟩
    have HB5 := lh hb5
    have hsz5 := hb5.size
    clear hb5
    go_wp2_with (refine AC rfl _ _ _ rfl w5.heap.size p rfl rfl _ _ (AL w5 (.cells zL4 164)) (by rw [Hsz.out]; exact Le.out) (by rw [Hsz.out]; rfl) Hone.out ?_)
    intro w6 hw6
    have hb6 : Below w5.heap.size w5 w6 := by rw [hw6.out]; exact AQ ((Below.refl _ w5).alloc nR _) nR _
    have Hw6 : Hid (w6.heap[w5.heap.size]? = some (.cells p 164 (0, 0))) := by rw [hw6.out]; exact lh (AR (AL w5 _))
    have Im := HB5.out.trans (hb6.mono HB5.out.size)
    obtain ⟨Lh, Hr6⟩ := l2h Im ((Im.block _ hr1).trans Hr.out)
    have Hv6 : Hid (w6.heap[w.heap.size + 1]? = some (.cells (wV [o0, o1, o2, o3, o4, o5, o6, o7]).toArray 141 (0, 0))) := lh ((Im.block _ hr2).trans Hv.out)
    have Hk6 := lh ((Im.block _ hr3).trans Hk.out)
    have HB6 := tbB HB Im
    have Mi := AJ Hw6.out
    clear hb6 Im hw6
    have hX0 : Hid (w6.heap[w.heap.size + 1]? = some (.cells #[.int .u32 (u o0), .int .u32 (u o1), .int .u32 (u o2), .int .u32 (u o3), .int .u32 (u o4), .int .u32 (u o5), .int .u32 (u o6), .int .u32 (u o7)] 141 (0, 0))) := Hv6
    obtain ⟨hcv, hfv⟩ := AA hX0.out
    have LQ := AJ hX0.out
    have LP := AJ Hw6.out
    have Kl := AJ Hk6.out
    have LU := AJ Hr6.out
    go_wp2
    go_loopw [8] (fun i wz => ∃ t : Nat, i = .int .i64 t ∧ t ≤ 64 ∧ wz.heap[w6.heap.size]? = some (.cells (wV (Cv [o0, o1, o2, o3, o4, o5, o6, o7] ws t)).toArray 141 (0, 0)) ∧ Below w6.heap.size w6 wz) (fun i _ => 64 - (intOf i).toNat)
    case atStart => exact ⟨0, rfl, by omega, AL w6 _, (Below.refl _ w6).alloc nR _⟩
    case round =>
     obtain ⟨t, rfl, ht, hx, hb7⟩ := hrel
     clear hcv hfv
     obtain ⟨x0, x1, x2, x3, x4, x5, x6, x7, hxx⟩ := list8 (Br hx8 ws t)
     rw [hxx] at hx
     have hxr : Hid (wr.heap[w6.heap.size]? = some (.cells #[.int .u32 (u x0), .int .u32 (u x1), .int .u32 (u x2), .int .u32 (u x3), .int .u32 (u x4), .int .u32 (u x5), .int .u32 (u x6), .int .u32 (u x7)] 141 (0, 0))) := lh hx
     obtain ⟨HXX, HB7⟩ := l2h hxx hb7
     have hw7 := (hb7.block _ LP).trans Hw6.out
     have hk7 := (hb7.block _ Kl).trans Hk6.out
     obtain ⟨hcx, hfx⟩ := AA hxr.out
     have hxl := AJ hx
     by_cases hlt : t < 64
     ·obtain ⟨wt, hwt⟩ := nXe (ws.getD t 0)
      obtain ⟨kt, hkt⟩ := nXe (kL.getD t 0)
      have hcw : wr.cell? ⟨w5.heap.size, t, none⟩ = some (.int .u32 (u wt)) := by rw [AO hw7, Hp.out, En (by omega), hwt]
      have hck : wr.cell? ⟨w2.heap.size, t, none⟩ = some (.int .u32 (u kt)) := by rw [AO hk7, En (show t < kL.length from hlt), hkt]
      obtain ⟨Hwt, Hkt⟩ := l2h hwt hkt
      clear hxx hx hb7 hw7 hk7 hwt hkt
      have g2 : 0 ≤ (t : Int) ∧ (t : Int) < 64 := by omega
      have n2 : (t : Int).toNat = t := by omega
      go_wp2
      go_quiet ((go_at_call 120; exact Calls.quiet_of (I1 _ _ _ (by omega))))
      obtain ⟨wa, hwa⟩ := nXe (wr.drewN nq)
      rw [← hwa]
      have HXa : Hid (wa.heap[w6.heap.size]? = some (.cells #[.int .u32 (u x0), .int .u32 (u x1), .int .u32 (u x2), .int .u32 (u x3), .int .u32 (u x4), .int .u32 (u x5), .int .u32 (u x6), .int .u32 (u x7)] 141 (0, 0))) := by rw [hwa]; exact hxr
      have HBa : Hid (Below w6.heap.size w6 wa) := by rw [hwa]; exact lh (Bl.drewN HB7.out _)
      have hxla := AJ HXa.out
      clear hwa hcx hfx hcw hck hxr HB7
      obtain ⟨hcx, hfx⟩ := AA HXa.out
      go_wp2
      go_quiet ((go_at_call 120; exact Calls.quiet_of (I1 _ _ _ (by omega))))
      obtain ⟨wb, hwb⟩ := nXe (wa.drewN nq)
      rw [← hwb]
      have HXb : Hid (wb.heap[w6.heap.size]? = some (.cells #[.int .u32 (u x0), .int .u32 (u x1), .int .u32 (u x2), .int .u32 (u x3), .int .u32 (u x4), .int .u32 (u x5), .int .u32 (u x6), .int .u32 (u x7)] 141 (0, 0))) := by rw [hwb]; exact HXa
      have HBb : Hid (Below w6.heap.size w6 wb) := by rw [hwb]; exact lh (Bl.drewN HBa.out _)
      have hxlb := AJ HXb.out
      clear hwb hcx hfx HXa HBa
      obtain ⟨hcx, hfx⟩ := AA HXb.out
      have hstep : Cv [o0, o1, o2, o3, o4, o5, o6, o7] ws (t + 1) = [x7 + (rotr x4 6 ^^^ rotr x4 11 ^^^ rotr x4 25) + (x4 &&& x5 ^^^ ~~~x4 &&& x6) + kt + wt + ((rotr x0 2 ^^^ rotr x0 13 ^^^ rotr x0 22) + (x0 &&& x1 ^^^ x0 &&& x2 ^^^ x1 &&& x2)), x0, x1, x2, x3 + (x7 + (rotr x4 6 ^^^ rotr x4 11 ^^^ rotr x4 25) + (x4 &&& x5 ^^^ ~~~x4 &&& x6) + kt + wt), x4, x5, x6] := by
       rw [Cv, HXX.out, Hwt.out, Hkt.out]
       rfl
      have Hstep := lh hstep
      clear hstep
      go_wp2_with (refine AC rfl _ _ _ rfl w6.heap.size #[.int .u32 (u (x7 + (rotr x4 6 ^^^ rotr x4 11 ^^^ rotr x4 25) + (x4 &&& x5 ^^^ ~~~x4 &&& x6) + kt + wt + ((rotr x0 2 ^^^ rotr x0 13 ^^^ rotr x0 22) + (x0 &&& x1 ^^^ x0 &&& x2 ^^^ x1 &&& x2)))), .int .u32 (u x0), .int .u32 (u x1), .int .u32 (u x2), .int .u32 (u (x3 + (x7 + (rotr x4 6 ^^^ rotr x4 11 ^^^ rotr x4 25) + (x4 &&& x5 ^^^ ~~~x4 &&& x6) + kt + wt))), .int .u32 (u x4), .int .u32 (u x5), .int .u32 (u x6)] rfl rfl _ _ HXb.out Hi8.out rfl (by simp [Value.oneCell']) ?_)
      intro wc hwc
      have HXc : Hid (wc.heap[w6.heap.size]? = some (.cells (wV (Cv [o0, o1, o2, o3, o4, o5, o6, o7] ws (t + 1))).toArray 141 (0, 0))) := by
       rw [Hstep.out]
       exact lh (by rw [hwc.out]; exact AR HXb.out)
      have HBc : Hid (Below w6.heap.size w6 wc) := by rw [hwc.out]; exact lh (AQ HBb.out nR _)
      clear hwc hcx hfx HXb HBb
      go_wp2
      go_roundw
      case rel => exact ⟨t + 1, by go_num, by omega, HXc.out, HBc.out⟩
      case measure => simp [intOf]; omega
     ·obtain rfl : t = 64 := by omega
      clear hlt hcx hfx hxx hw7 hk7
      have hy8 := Br hx8 ws 64
      obtain ⟨yy, hyy⟩ := nXe (Cv [o0, o1, o2, o3, o4, o5, o6, o7] ws 64)
      obtain ⟨xx, hx8', hxe⟩ : ∃ xx : List UInt32, xx.length = 8 ∧ xx = [o0, o1, o2, o3, o4, o5, o6, o7] := ⟨_, hx8, rfl⟩
      have hx' := hx
      rw [← HXX.out, ← hyy] at hx'
      have Hx' := lh hx'
      have hv7 : wr.heap[w.heap.size + 1]? = some (.cells (wV xx).toArray 141 (0, 0)) := by rw [hxe]; exact (HB7.out.block _ LQ).trans Hv6.out
      have Hv7 := lh hv7
      rw [← hyy] at hy8
      have hadd := HAdd.out
      rw [← hyy, ← hxe] at hadd
      have Hadd := lh hadd
      have hac := Hac.out
      rw [← hxe] at hac
      have Lf := lh hac
      clear hac
      clear hx hx' hv7 hyy hxe hadd HXX hb7 hxr
      go_wp2
      obtain ⟨wo, hwo⟩ : ∃ wo : World, wo = wr := ⟨_, rfl⟩
      rw [← hwo] at Hx' Hv7 HB7 hxl
      rw [← hwo]
      clear hwo
      try rw [show ((64 : Nat) : Int) = 64 from rfl]
      go_loopw [11] (fun i wq => ∃ s : Nat, i = .int .i64 s ∧ s ≤ 8 ∧ wq.heap[w.heap.size + 1]? = some (.cells (wV (mixL xx yy s)).toArray 141 (0, 0)) ∧ wq.heap[w6.heap.size]? = some (.cells (wV yy).toArray 141 (0, 0)) ∧ Ext (fun k => k = w.heap.size + 1) wo wq) (fun i _ => 8 - (intOf i).toNat)
      case atStart => exact ⟨0, rfl, by omega, by rw [mix_zero]; exact Hv7.out, Hx'.out, Ext.refl _ _⟩
      case round =>
       obtain ⟨j, rfl, hj, hv4, hy4, hE4⟩ := hrel
       obtain ⟨HV4, HY4, HE4⟩ := l3h hv4 hy4 hE4
       have hvl4 := AJ hv4
       have hyl4 := AJ hy4
       by_cases hls : j < 8
       ·obtain ⟨a, ha⟩ := nXe (xx.getD j 0)
        obtain ⟨d, hd⟩ := nXe (yy.getD j 0)
        have c0 : wr.cell? ⟨w.heap.size + 1, j, none⟩ = some (.int .u32 (u a)) := by rw [AO hv4, mix_get hx8' hy8 hls, ha]
        have c1 : wr.cell? ⟨w6.heap.size, j, none⟩ = some (.int .u32 (u d)) := by rw [AO hy4, En (by omega), hd]
        have cf : wr.frozen? ⟨w.heap.size + 1, j, none⟩ = false := BK hv4
        obtain ⟨Ha, Hd⟩ := l2h ha hd
        clear hv4 hy4 hE4 ha hd
        have g2 : 0 ≤ (j : Int) ∧ (j : Int) < 8 := by omega
        have n2 : (j : Int).toNat = j := by omega
        go_wp2
        go_still_tail 8, (by kernel_rfl)
        clear g2 n2
        go_wp2
        go_roundw
        case rel =>
              refine ⟨j + 1, by go_num, by omega, ?_, ?_, ?_⟩
              ·rw [← mix_set hx8' hy8 hls, ← Ha.out, ← Hd.out]
               exact heap_setCell_same HV4.out _
              ·exact (AX _ (by omega)).trans HY4.out
              ·exact (HE4.out.setCell (p := ⟨w.heap.size + 1, j, none⟩) (.inl rfl) _).drew
        case measure => simp [intOf]; omega
       ·obtain rfl : j = 8 := by omega
        clear hv4 hy4 hE4
        go_wp2
        go_roundw
        case rel =>
              refine ⟨_, q + 1, rfl, by omega, ?_, ?_, ?_, ?_, ?_, ?_⟩
              ·exact (HE4.out.block _ (by omega) (by omega)).trans ((HB7.out.block _ LU).trans Hr6.out)
              ·rw [Lf.out, Hadd.out]; exact HV4.out
              ·exact (HE4.out.block _ (by omega) (by omega)).trans ((HB7.out.block _ Kl).trans Hk6.out)
              ·exact Bl.ext (HB6.out.trans (HB7.out.mono HB6.out.size)) HE4.out (fun k hk h => by omega)
              ·exact fun k h => by simp [Value.ownBlock] at h <;> omega
              ·refine ⟨_, ((Hcut.out.below Lh.out).below HB7.out).ext HE4.out (fun k h hk => by simp [Value.ownBlock] at h <;> omega), ?_⟩
               all_goals omega
        case measure => simp [sizeV] <;> omega
   ·have hcut := Hsl.out.cut (k := 64) (m := n) (A := ⟨B, off + 64, none⟩) hn64 nR (by rw [if_neg hc1, Addr.add_mid])
    rw [HC0.out] at hcut
    have Hcut := lh hcut
    clear hcut
    go_wp2_with fail
    refine HWd.out.mono ?_
    rintro e w5 ⟨rfl, hb5⟩
    have HB5 := lh hb5
    have hsz5 := hb5.size
    clear hb5
    go_wp2_with (refine AC rfl _ _ _ rfl w5.heap.size p rfl rfl _ _ (AL w5 (.cells zL4 164)) (by rw [Hsz.out]; exact Le.out) (by rw [Hsz.out]; rfl) Hone.out ?_)
    intro w6 hw6
    have hb6 : Below w5.heap.size w5 w6 := by rw [hw6.out]; exact AQ ((Below.refl _ w5).alloc nR _) nR _
    have Hw6 : Hid (w6.heap[w5.heap.size]? = some (.cells p 164 (0, 0))) := by rw [hw6.out]; exact lh (AR (AL w5 _))
    have Im := HB5.out.trans (hb6.mono HB5.out.size)
    obtain ⟨Lh, Hr6⟩ := l2h Im ((Im.block _ hr1).trans Hr.out)
    have Hv6 : Hid (w6.heap[w.heap.size + 1]? = some (.cells (wV [o0, o1, o2, o3, o4, o5, o6, o7]).toArray 141 (0, 0))) := lh ((Im.block _ hr2).trans Hv.out)
    have Hk6 := lh ((Im.block _ hr3).trans Hk.out)
    have HB6 := tbB HB Im
    have Mi := AJ Hw6.out
    clear hb6 Im hw6
    have hX0 : Hid (w6.heap[w.heap.size + 1]? = some (.cells #[.int .u32 (u o0), .int .u32 (u o1), .int .u32 (u o2), .int .u32 (u o3), .int .u32 (u o4), .int .u32 (u o5), .int .u32 (u o6), .int .u32 (u o7)] 141 (0, 0))) := Hv6
    obtain ⟨hcv, hfv⟩ := AA hX0.out
    have LQ := AJ hX0.out
    have LP := AJ Hw6.out
    have Kl := AJ Hk6.out
    have LU := AJ Hr6.out
    go_wp2
    go_loopw [8] (fun i wz => ∃ t : Nat, i = .int .i64 t ∧ t ≤ 64 ∧ wz.heap[w6.heap.size]? = some (.cells (wV (Cv [o0, o1, o2, o3, o4, o5, o6, o7] ws t)).toArray 141 (0, 0)) ∧ Below w6.heap.size w6 wz) (fun i _ => 64 - (intOf i).toNat)
    case atStart => exact ⟨0, rfl, by omega, AL w6 _, (Below.refl _ w6).alloc nR _⟩
    case round =>
     obtain ⟨t, rfl, ht, hx, hb7⟩ := hrel
     clear hcv hfv
     obtain ⟨x0, x1, x2, x3, x4, x5, x6, x7, hxx⟩ := list8 (Br hx8 ws t)
     rw [hxx] at hx
     have hxr : Hid (wr.heap[w6.heap.size]? = some (.cells #[.int .u32 (u x0), .int .u32 (u x1), .int .u32 (u x2), .int .u32 (u x3), .int .u32 (u x4), .int .u32 (u x5), .int .u32 (u x6), .int .u32 (u x7)] 141 (0, 0))) := lh hx
     obtain ⟨HXX, HB7⟩ := l2h hxx hb7
     have hw7 := (hb7.block _ LP).trans Hw6.out
     have hk7 := (hb7.block _ Kl).trans Hk6.out
     obtain ⟨hcx, hfx⟩ := AA hxr.out
     have hxl := AJ hx
     by_cases hlt : t < 64
     ·obtain ⟨wt, hwt⟩ := nXe (ws.getD t 0)
      obtain ⟨kt, hkt⟩ := nXe (kL.getD t 0)
      have hcw : wr.cell? ⟨w5.heap.size, t, none⟩ = some (.int .u32 (u wt)) := by rw [AO hw7, Hp.out, En (by omega), hwt]
      have hck : wr.cell? ⟨w2.heap.size, t, none⟩ = some (.int .u32 (u kt)) := by rw [AO hk7, En (show t < kL.length from hlt), hkt]
      obtain ⟨Hwt, Hkt⟩ := l2h hwt hkt
      clear hxx hx hb7 hw7 hk7 hwt hkt
      have g2 : 0 ≤ (t : Int) ∧ (t : Int) < 64 := by omega
      have n2 : (t : Int).toNat = t := by omega
      go_wp2
      go_quiet ((go_at_call 120; exact Calls.quiet_of (I1 _ _ _ (by omega))))
      obtain ⟨wa, hwa⟩ := nXe (wr.drewN nq)
      rw [← hwa]
      have HXa : Hid (wa.heap[w6.heap.size]? = some (.cells #[.int .u32 (u x0), .int .u32 (u x1), .int .u32 (u x2), .int .u32 (u x3), .int .u32 (u x4), .int .u32 (u x5), .int .u32 (u x6), .int .u32 (u x7)] 141 (0, 0))) := by rw [hwa]; exact hxr
      have HBa : Hid (Below w6.heap.size w6 wa) := by rw [hwa]; exact lh (Bl.drewN HB7.out _)
      have hxla := AJ HXa.out
      clear hwa hcx hfx hcw hck hxr HB7
      obtain ⟨hcx, hfx⟩ := AA HXa.out
      go_wp2
      go_quiet ((go_at_call 120; exact Calls.quiet_of (I1 _ _ _ (by omega))))
      obtain ⟨wb, hwb⟩ := nXe (wa.drewN nq)
      rw [← hwb]
      have HXb : Hid (wb.heap[w6.heap.size]? = some (.cells #[.int .u32 (u x0), .int .u32 (u x1), .int .u32 (u x2), .int .u32 (u x3), .int .u32 (u x4), .int .u32 (u x5), .int .u32 (u x6), .int .u32 (u x7)] 141 (0, 0))) := by rw [hwb]; exact HXa
      have HBb : Hid (Below w6.heap.size w6 wb) := by rw [hwb]; exact lh (Bl.drewN HBa.out _)
      have hxlb := AJ HXb.out
      clear hwb hcx hfx HXa HBa
      obtain ⟨hcx, hfx⟩ := AA HXb.out
      have hstep : Cv [o0, o1, o2, o3, o4, o5, o6, o7] ws (t + 1) = [x7 + (rotr x4 6 ^^^ rotr x4 11 ^^^ rotr x4 25) + (x4 &&& x5 ^^^ ~~~x4 &&& x6) + kt + wt + ((rotr x0 2 ^^^ rotr x0 13 ^^^ rotr x0 22) + (x0 &&& x1 ^^^ x0 &&& x2 ^^^ x1 &&& x2)), x0, x1, x2, x3 + (x7 + (rotr x4 6 ^^^ rotr x4 11 ^^^ rotr x4 25) + (x4 &&& x5 ^^^ ~~~x4 &&& x6) + kt + wt), x4, x5, x6] := by
       rw [Cv, HXX.out, Hwt.out, Hkt.out]
       rfl
      have Hstep := lh hstep
      clear hstep
      go_wp2_with (refine AC rfl _ _ _ rfl w6.heap.size #[.int .u32 (u (x7 + (rotr x4 6 ^^^ rotr x4 11 ^^^ rotr x4 25) + (x4 &&& x5 ^^^ ~~~x4 &&& x6) + kt + wt + ((rotr x0 2 ^^^ rotr x0 13 ^^^ rotr x0 22) + (x0 &&& x1 ^^^ x0 &&& x2 ^^^ x1 &&& x2)))), .int .u32 (u x0), .int .u32 (u x1), .int .u32 (u x2), .int .u32 (u (x3 + (x7 + (rotr x4 6 ^^^ rotr x4 11 ^^^ rotr x4 25) + (x4 &&& x5 ^^^ ~~~x4 &&& x6) + kt + wt))), .int .u32 (u x4), .int .u32 (u x5), .int .u32 (u x6)] rfl rfl _ _ HXb.out Hi8.out rfl (by simp [Value.oneCell']) ?_)
      intro wc hwc
      have HXc : Hid (wc.heap[w6.heap.size]? = some (.cells (wV (Cv [o0, o1, o2, o3, o4, o5, o6, o7] ws (t + 1))).toArray 141 (0, 0))) := by
       rw [Hstep.out]
       exact lh (by rw [hwc.out]; exact AR HXb.out)
      have HBc : Hid (Below w6.heap.size w6 wc) := by rw [hwc.out]; exact lh (AQ HBb.out nR _)
      clear hwc hcx hfx HXb HBb
      go_wp2
      go_roundw
      case rel => exact ⟨t + 1, by go_num, by omega, HXc.out, HBc.out⟩
      case measure => simp [intOf]; omega
     ·obtain rfl : t = 64 := by omega
      clear hlt hcx hfx hxx hw7 hk7
      have hy8 := Br hx8 ws 64
      obtain ⟨yy, hyy⟩ := nXe (Cv [o0, o1, o2, o3, o4, o5, o6, o7] ws 64)
      obtain ⟨xx, hx8', hxe⟩ : ∃ xx : List UInt32, xx.length = 8 ∧ xx = [o0, o1, o2, o3, o4, o5, o6, o7] := ⟨_, hx8, rfl⟩
      have hx' := hx
      rw [← HXX.out, ← hyy] at hx'
      have Hx' := lh hx'
      have hv7 : wr.heap[w.heap.size + 1]? = some (.cells (wV xx).toArray 141 (0, 0)) := by rw [hxe]; exact (HB7.out.block _ LQ).trans Hv6.out
      have Hv7 := lh hv7
      rw [← hyy] at hy8
      have hadd := HAdd.out
      rw [← hyy, ← hxe] at hadd
      have Hadd := lh hadd
      have hac := Hac.out
      rw [← hxe] at hac
      have Lf := lh hac
      clear hac
      clear hx hx' hv7 hyy hxe hadd HXX hb7 hxr
      go_wp2
      obtain ⟨wo, hwo⟩ : ∃ wo : World, wo = wr := ⟨_, rfl⟩
      rw [← hwo] at Hx' Hv7 HB7 hxl
      rw [← hwo]
      clear hwo
      try rw [show ((64 : Nat) : Int) = 64 from rfl]
      go_loopw [11] (fun i wq => ∃ s : Nat, i = .int .i64 s ∧ s ≤ 8 ∧ wq.heap[w.heap.size + 1]? = some (.cells (wV (mixL xx yy s)).toArray 141 (0, 0)) ∧ wq.heap[w6.heap.size]? = some (.cells (wV yy).toArray 141 (0, 0)) ∧ Ext (fun k => k = w.heap.size + 1) wo wq) (fun i _ => 8 - (intOf i).toNat)
      case atStart => exact ⟨0, rfl, by omega, by rw [mix_zero]; exact Hv7.out, Hx'.out, Ext.refl _ _⟩
      case round =>
       obtain ⟨j, rfl, hj, hv4, hy4, hE4⟩ := hrel
       obtain ⟨HV4, HY4, HE4⟩ := l3h hv4 hy4 hE4
       have hvl4 := AJ hv4
       have hyl4 := AJ hy4
       by_cases hls : j < 8
       ·obtain ⟨a, ha⟩ := nXe (xx.getD j 0)
        obtain ⟨d, hd⟩ := nXe (yy.getD j 0)
        have c0 : wr.cell? ⟨w.heap.size + 1, j, none⟩ = some (.int .u32 (u a)) := by rw [AO hv4, mix_get hx8' hy8 hls, ha]
        have c1 : wr.cell? ⟨w6.heap.size, j, none⟩ = some (.int .u32 (u d)) := by rw [AO hy4, En (by omega), hd]
        have cf : wr.frozen? ⟨w.heap.size + 1, j, none⟩ = false := BK hv4
        obtain ⟨Ha, Hd⟩ := l2h ha hd
        clear hv4 hy4 hE4 ha hd
        have g2 : 0 ≤ (j : Int) ∧ (j : Int) < 8 := by omega
        have n2 : (j : Int).toNat = j := by omega
        go_wp2
        go_still_tail 8, (by kernel_rfl)
        clear g2 n2
        go_wp2
        go_roundw
        case rel =>
              refine ⟨j + 1, by go_num, by omega, ?_, ?_, ?_⟩
              ·rw [← mix_set hx8' hy8 hls, ← Ha.out, ← Hd.out]
               exact heap_setCell_same HV4.out _
              ·exact (AX _ (by omega)).trans HY4.out
              ·exact (HE4.out.setCell (p := ⟨w.heap.size + 1, j, none⟩) (.inl rfl) _).drew
        case measure => simp [intOf]; omega
       ·obtain rfl : j = 8 := by omega
        clear hv4 hy4 hE4
        go_wp2
        go_roundw
        case rel =>
              refine ⟨_, q + 1, rfl, by omega, ?_, ?_, ?_, ?_, ?_, ?_⟩
              ·exact (HE4.out.block _ (by omega) (by omega)).trans ((HB7.out.block _ LU).trans Hr6.out)
              ·rw [Lf.out, Hadd.out]; exact HV4.out
              ·exact (HE4.out.block _ (by omega) (by omega)).trans ((HB7.out.block _ Kl).trans Hk6.out)
              ·exact Bl.ext (HB6.out.trans (HB7.out.mono HB6.out.size)) HE4.out (fun k hk h => by omega)
              ·exact fun k h => by simp [Value.ownBlock] at h <;> omega
              ·refine ⟨_, ((Hcut.out.below Lh.out).below HB7.out).ext HE4.out (fun k h hk => by simp [Value.ownBlock] at h <;> omega), ?_⟩
               all_goals omega
        case measure => simp [sizeV] <;> omega
  ·obtain rfl : n = 0 := by omega
   have hx8 := Ed (v := Bz) rfl P q
   have hsum : (acc Bz P q).flatMap be = ShaS.sum (bl s) := by
        unfold ShaS.sum
        rw [← HP.out, sumB_acc q Bz P (by omega)]
   obtain ⟨y, hy⟩ := nXe (acc Bz P q)
   rw [← hy] at hsum hx8 Hv
   have hL32 : (ShaS.sum (bl s)).length = 32 := Bb _
   obtain ⟨L, hL⟩ := nXe (ShaS.sum (bl s))
   rw [← hL] at hsum hL32
   obtain ⟨HL, Md, Lg, Hx8⟩ := l4h hL hsum hL32 hx8
   have hz : (zl0 : Array Value) = pB 32 [] := by kernel_rfl
   have Hz := lh hz
   clear hsum hL32 hx8 hz hy hL Hown Hsl Hk hr3
   obtain ⟨wo, rfl⟩ : ∃ wo : World, wo = wr := ⟨_, rfl⟩
   go_wp2
   go_loopw [13] (fun i wz => ∃ t : Nat, i = .int .i64 t ∧ t ≤ 32 ∧ wz.heap[wo.heap.size]? = some (.cells (pB 32 (L.take t)) 44 (0, 0)) ∧ Below wo.heap.size wo wz) (fun i _ => 32 - (intOf i).toNat)
   case atStart => exact ⟨0, rfl, by omega, by rw [List.take_zero, ← Hz.out]; exact AL wo _, (Below.refl _ wo).alloc nR _⟩
   case round =>
        obtain ⟨t, rfl, ht, hx, hb7⟩ := hrel
        obtain ⟨Hx7, HB7⟩ := l2h hx hb7
        have hxl := AJ hx
        have hne1 : ¬ w.heap.size + 1 = wo.heap.size := by omega
        have hne2 : ¬ w.heap.size = wo.heap.size := by omega
        by_cases hlt : t < 32
        ·obtain ⟨g, j, hgj, hg, hj⟩ : ∃ g j, t = 4 * g + j ∧ g < 8 ∧ j < 4 := ⟨t / 4, t % 4, by omega, by omega, by omega⟩
         have hv7 := (HB7.out.block _ hr2).trans Hv.out
         obtain ⟨x, hxx⟩ := nXe (y.getD g 0)
         have c0 : wr.cell? ⟨w.heap.size + 1, g, none⟩ = some (.int .u32 (u x)) := by rw [AO hv7, En (by rw [Hx8.out]; exact hg), hxx]
         have cf : wr.frozen? ⟨wo.heap.size, t, none⟩ = false := BK hx
         have cs : wr.cell? ⟨wo.heap.size, t, none⟩ = some (.int .u8 0) := by rw [AO hx]; exact IL (by rw [List.length_take]; omega) hlt
         have hby : L.getD t 0 = UInt8.ofNat (x.toNat / 2 ^ (24 - 8 * j)) := by rw [← Md.out, hgj, MC Hx8.out hg hj, ← hxx]
         have hset := K4 Lg.out hlt
         have Hset := lh hset
         have q4 : (t : Int) / 4 = (g : Int) := by omega
         have m4 : (t : Int) % 4 = (j : Int) := by omega
         have g2 : 0 ≤ (g : Int) ∧ (g : Int) < 8 := by omega
         have n2 : (g : Int).toNat = g := by omega
         have n3 : (t : Int).toNat = t := by omega
         clear hx hb7 hset hv7 hxx hgj
         obtain rfl | rfl | rfl | rfl : j = 0 ∨ j = 1 ∨ j = 2 ∨ j = 3 := by omega
         ·have hval : u x / 16777216 % 256 = ((L.getD t 0).toNat : Int) := by
           have := byte_of x 16777216
           rw [hby, show (2 : Nat) ^ (24 - 8 * 0) = 16777216 from rfl]
           simpa using this
          have Hval := lh hval
          clear hval hby
          go_wp2
          go_roundw
          case rel =>
           refine ⟨t + 1, by go_num, by omega, ?_, HB7.out.setCell (p := ⟨wo.heap.size, t, none⟩) nR _⟩
           rw [← Hset.out, ← Hval.out]
           exact heap_setCell_same Hx7.out _
          case measure => simp [intOf]; omega
         ·have hval : u x / 65536 % 256 = ((L.getD t 0).toNat : Int) := by
           have := byte_of x 65536
           rw [hby, show (2 : Nat) ^ (24 - 8 * 1) = 65536 from rfl]
           simpa using this
          have Hval := lh hval
          clear hval hby
          go_wp2
          go_roundw
          case rel =>
           refine ⟨t + 1, by go_num, by omega, ?_, HB7.out.setCell (p := ⟨wo.heap.size, t, none⟩) nR _⟩
           rw [← Hset.out, ← Hval.out]
           exact heap_setCell_same Hx7.out _
          case measure => simp [intOf]; omega
         ·have hval : u x / 256 % 256 = ((L.getD t 0).toNat : Int) := by
           have := byte_of x 256
           rw [hby, show (2 : Nat) ^ (24 - 8 * 2) = 256 from rfl]
           simpa using this
          have Hval := lh hval
          clear hval hby
          go_wp2
          go_roundw
          case rel =>
           refine ⟨t + 1, by go_num, by omega, ?_, HB7.out.setCell (p := ⟨wo.heap.size, t, none⟩) nR _⟩
           rw [← Hset.out, ← Hval.out]
           exact heap_setCell_same Hx7.out _
          case measure => simp [intOf]; omega
         ·have hval : u x % 256 = ((L.getD t 0).toNat : Int) := by
           have := byte_of x 1
           rw [hby, show (2 : Nat) ^ (24 - 8 * 3) = 1 from rfl]
           simpa using this
          have Hval := lh hval
          clear hval hby
          go_wp2
          go_roundw
          case rel =>
           refine ⟨t + 1, by go_num, by omega, ?_, HB7.out.setCell (p := ⟨wo.heap.size, t, none⟩) nR _⟩
           rw [← Hset.out, ← Hval.out]
           exact heap_setCell_same Hx7.out _
          case measure => simp [intOf]; omega
        ·obtain rfl : t = 32 := by omega
         have hx32 : wr.heap[wo.heap.size]? = some (.cells (pB 32 L) 44 (0, 0)) := by
          rw [List.take_of_length_le (by rw [Lg.out]; omega)] at hx
          exact hx
         obtain ⟨p, hp⟩ := nXe (pB 32 L)
         have hps : p.size = 32 := by rw [hp]; exact IK (by rw [Lg.out]; omega)
         have hpo : p.all (·.oneCell') = true := by rw [hp]; exact pB_one _ _
         rw [← hp] at hx32
         obtain ⟨Hpp, Mc, Hr7, HB8, HPS, HPO⟩ := l6h hp hx32 ((HB7.out.block _ hr1).trans Hr.out) (HB.out.trans (HB7.out.mono HB.out.size)) hps hpo
         clear hx32 hx hb7 hps hpo hp Hx7
         go_wp2_with (first
          | refine wpList_load_row rfl _ _ rfl wo.heap.size rfl _ p (0, 0) _ Mc.out underlying44 rfl (by rw [HPS.out]; exact Hi.out) ?_
          | refine wpList_store_row rfl _ _ _ rfl w.heap.size p rfl rfl _ _ Hr7.out (by rw [HPS.out]; exact Hi.out) (by rw [HPS.out]; exact IK (by simp)) HPO.out ?_)
         go_wp2
         refine bodyPost_ret (v := .agg p) (results_cell_row rfl _ _ w.heap.size _ p (0, 0) _ rfl (AR Hr7.out) underlying44 rfl (by rw [HPS.out]; exact Hi.out)) rfl ⟨by rw [Hpp.out, HL.out], AQ HB8.out nR _⟩
end R2M
end Go.Proofs.YtceiajepcokacaaGreatDoor
