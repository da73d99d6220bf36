/-
  WHAT IS PROVED: the program's sums: the last bytes, filled up. Condition: the bytes are not longer than the theorem says.
-/
import Derived.Test.YtfodloepkgkilaaDoorShaB
import Derived.Lib.SlBytesConst
namespace Go.Proofs.YtfodloepkgkilaaDoor.ShaF
open Go Go.RowKit Go.Proofs.YtfodloepkgkilaaDoor Go.Proofs.YtfodloepkgkilaaDoor.U32 Go.Proofs.YtfodloepkgkilaaDoor.ShaS Go.Proofs.YtfodloepkgkilaaDoor.OctP Go.Proofs.YtfodloepkgkilaaDoor.Steps
set_option linter.unusedVariables false
set_option linter.unusedSimpArgs false

/-- The zeros that fill up. -/
def zs (n : Nat) : Nat := (119 - n % 64) % 64
theorem fill_eq (n : Nat) : fill n = ([0x80] ++ List.replicate (zs n) 0) ++ (List.range 8).map fun i => UInt8.ofNat (n * 8 / 2 ^ (56 - 8 * i)) := by
  unfold fill zs
  simp

def lenOf : Value → Nat
  | .slice _ l _ => l
  | _ => 0

set_option maxRecDepth 100000 in
set_option maxHeartbeats 4000000 in
theorem fill_ok (w : World) (s : ByteArray) (n : Nat) (hs : s.size < 64) (hn : n ≤ 140737488355328) (hm : s.size % 64 = n % 64) :
    Calls Tryd.prog 96 #[.string s, .int .i64 n] w fun e w' => ∃ v', e = .returned v' ∧ OwB w' w.heap.size v' (bl s ++ fill n) ∧ Below w.heap.size w w' := by
  have ho := ow_bytes w (base := w.heap.size) 5 s (by unfold maxLen; omega) (Nat.le_refl _)
  have hbel := below_bytes w 5 s
  obtain ⟨W1, hW1⟩ : ∃ W1, W1 = Go.Lib.bytesWorld w 5 s := ⟨_, rfl⟩
  rw [← hW1] at ho hbel
  have hcv := Go.Lib.run_convert_string_bytes (P := Tryd.prog) w 9 69 5 s (u := .string) Tryd.underlying9 Tryd.underlying69 Tryd.underlying5
  obtain ⟨cp, hcp⟩ : ∃ cp, cp = grownCap w s.size 0 5 := ⟨_, rfl⟩
  rw [← hW1] at hcv
  rw [← hcp] at hcv ho
  have hz1 := hbel.size
  have HO := Lib.hid ho
  have HBel := Lib.hid hbel
  have Hm := Lib.hid hm
  have hzs : zs n ≤ 63 := by unfold zs; omega
  have hzs2 : (s.size + 1 + zs n) % 64 = 56 := by unfold zs; omega
  have Hz2 := Lib.hid hzs2
  obtain ⟨L1, hL1⟩ : ∃ L1, L1 = bl s ++ [0x80] := ⟨_, rfl⟩
  have hl2 : s.size + 1 = L1.length := by rw [hL1, List.length_append, bl_length]; rfl
  have hl3 : L1.length ≤ s.size + 1 := by omega
  have hl4 : s.size + 1 ≤ L1.length := by omega
  have HL1 := Lib.hid hL1
  have Hl2 := Lib.hid hl2
  clear ho hbel hW1 hcp hm hzs2 hL1 hl2
  go_enter Tryd.func96, Tryd.ntmps96
  go_wp2_with (at_builtin; go_must (refine wpList_appF _ rfl _ _ _ _ rfl tyBytes w.heap.size (.slice (some ⟨w.heap.size, 0, none⟩) s.size cp) s.size (byV s.data.toList) rfl ?own (.slice (some ⟨W1.heap.size, 0, none⟩) 1 1) 1 [.int .u8 128] rfl ?src L1.length Hl2.out (byV L1) ?hz ?h63 ?hby ?hba ?go))
  case own => exact HO.out.ext ((Ext.refl (fun _ => False) _).alloc _) (fun _ _ h => h)
  case src => exact src_one Tryd.underlying69 rfl
  case hz => rw [HL1.out, byV_append]; rfl
  case h63 => unfold maxLen; omega
  case hby => omega
  case hba => simp; omega
  case go =>
    intro a2 c2 w2 hown hgrow _
    have HO2 := Lib.hid hown.bytes
    have HB2 := Lib.hid (Bl.grown (HBel.out.alloc hz1 _) hgrow (fun k hk => by simp [Value.ownBlock] at hk; omega))
    clear hown hgrow hcv
    go_wp2
    go_loopw [5] (fun x wr => ∃ (v : Value) (lb : List UInt8) (j : Nat), x = v ∧ j ≤ zs n ∧ lb = L1 ++ List.replicate j 0 ∧ OwB wr w.heap.size v lb ∧ Below w.heap.size w wr) (fun x _ => s.size + 1 + zs n - lenOf x)
    case atStart => exact ⟨_, L1, 0, rfl, by omega, by simp, HO2.out, HB2.out⟩
    case round =>
      obtain ⟨v, lb, j, rfl, hj, hlb, hov, hbv⟩ := hrel
      obtain ⟨a3, c3, rfl, _, _⟩ := hov.form
      have hll : lb.length = L1.length + j := by rw [hlb, List.length_append, List.length_replicate]
      have hll1 : lb.length ≤ s.size + 1 + j := by omega
      have hll2 : s.size + 1 + j ≤ lb.length := by omega
      have HOv := Lib.hid hov
      have HBv := Lib.hid hbv
      have Hlb := Lib.hid hlb
      have hzr := hbv.size
      clear hov hbv hlb hll
      by_cases hlt : j < zs n
      · have hne : (((lb.length : Int) % 64) != 56) = true := by
          have := Hz2.out
          simp only [bne_iff_ne]
          omega
        obtain ⟨L5, hL5⟩ : ∃ L5, L5 = lb ++ [0] := ⟨_, rfl⟩
        have hl5 : lb.length + 1 = L5.length := by rw [hL5, List.length_append]; rfl
        have hl6 : L5.length ≤ lb.length + 1 := by omega
        have hl7 : lb.length + 1 ≤ L5.length := by omega
        have HL5 := Lib.hid hL5
        have Hl5 := Lib.hid hl5
        clear hL5 hl5
        go_wp2_with (at_builtin; go_must (refine wpList_appF _ rfl _ _ _ _ rfl tyBytes w.heap.size (.slice a3 lb.length c3) lb.length (byV lb) rfl ?own (.slice (some ⟨wr.heap.size, 0, none⟩) 1 1) 1 [.int .u8 0] rfl ?src L5.length Hl5.out (byV L5) ?hz ?h63 ?hby ?hba ?go))
        case own => exact HOv.out.ext ((Ext.refl (fun _ => False) _).alloc _) (fun _ _ h => h)
        case src => exact src_one Tryd.underlying69 rfl
        case hz => rw [HL5.out, byV_append]; rfl
        case h63 => unfold maxLen; omega
        case hby => omega
        case hba => simp; omega
        case go =>
          intro a4 c4 w4 hown hgrow _
          have HO4 := Lib.hid hown.bytes
          have HB4 := Lib.hid (Bl.grown (HBv.out.alloc hzr _) hgrow (fun k hk => (HOv.out.lt k hk).1))
          clear hown hgrow
          go_wp2
          go_roundw
          case rel =>
            refine ⟨_, L5, j + 1, rfl, by omega, ?_, HO4.out, HB4.out⟩
            rw [HL5.out, Hlb.out, List.replicate_succ']
            simp
          case measure => simp [lenOf]; omega
      · obtain rfl : j = zs n := by omega
        have hne : (((lb.length : Int) % 64) != 56) = false := by
          have := Hz2.out
          simp only [bne_eq_false_iff_eq]
          omega
        obtain ⟨X, hX⟩ : ∃ X : Int, X = (n : Int) * 8 := ⟨_, rfl⟩
        have hX0 : 0 ≤ X := by omega
        have hX1 : X ≤ 1125899906842624 := by omega
        have HX := Lib.hid hX
        go_wp2
        rw [← hX]
        clear hX
        obtain ⟨wo, rfl⟩ : ∃ wo : World, wo = wr := ⟨_, rfl⟩
        go_loopw [5, 7] (fun x i wr => ∃ (v : Value) (l2 : List UInt8) (q : Nat), x = v ∧ i = .int .i64 (56 - 8 * (q : Int)) ∧ q ≤ 8 ∧ l2 = lb ++ (List.range q).map (fun i => UInt8.ofNat (n * 8 / 2 ^ (56 - 8 * i))) ∧ OwB wr w.heap.size v l2 ∧ Below w.heap.size w wr) (fun _ i _ => (intOf i + 8).toNat)
        case atStart => exact ⟨_, lb, 0, rfl, rfl, by omega, by simp, HOv.out, HBv.out⟩
        case round =>
          obtain ⟨v, l2, q, rfl, rfl, hq, hl2e, hov, hbv⟩ := hrel
          obtain ⟨a5, c5, rfl, _, _⟩ := hov.form
          have hl2 : l2.length = lb.length + q := by rw [hl2e, List.length_append, List.length_map, List.length_range]
          have hl21 : l2.length ≤ lb.length + q := by omega
          have hl22 : lb.length + q ≤ l2.length := by omega
          have HO2' := Lib.hid hov
          have HB2' := Lib.hid hbv
          have Hl2e := Lib.hid hl2e
          have hzr2 := hbv.size
          clear hov hbv hl2e hl2
          by_cases hlt : q < 8
          · obtain ⟨I, hI, hI0, hI1, hI2⟩ : ∃ I : Int, I = 56 - 8 * (q : Int) ∧ 0 ≤ I ∧ I ≤ 56 ∧ 56 - I = 8 * (q : Int) := ⟨_, rfl, by omega, by omega, by omega⟩
            obtain ⟨bb, hbb⟩ : ∃ bb, bb = UInt8.ofNat (n * 8 / 2 ^ (56 - 8 * q)) := ⟨_, rfl⟩
            obtain ⟨L6, hL6⟩ : ∃ L6, L6 = l2 ++ [bb] := ⟨_, rfl⟩
            have hl6 : l2.length + 1 = L6.length := by rw [hL6, List.length_append]; rfl
            have hl61 : L6.length ≤ l2.length + 1 := by omega
            have hl62 : l2.length + 1 ≤ L6.length := by omega
            have hstep : lb ++ (List.range (q + 1)).map (fun i => UInt8.ofNat (n * 8 / 2 ^ (56 - 8 * i))) = L6 := by
              rw [hL6, Hl2e.out, List.range_succ, List.map_append, ← List.append_assoc, hbb]
              rfl
            have hval : (X / 2 ^ I.toNat) % 256 = (bb.toNat : Int) := by
              have e : (UInt8.ofNat (n * 8 / 2 ^ (56 - 8 * q))).toNat = n * 8 / 2 ^ (56 - 8 * q) % 256 := rfl
              rw [hbb, e, HX.out, show I.toNat = 56 - 8 * q by omega, Int.natCast_emod, Int.natCast_ediv, Int.natCast_pow, Int.natCast_mul]
              rfl
            have HI := Lib.hid hI
            have Hl6 := Lib.hid hl6
            have HL6 := Lib.hid hL6
            have Hstep := Lib.hid hstep
            have Hval := Lib.hid hval
            rw [← hI]
            clear hI hbb hL6 hl6 hstep hval
            have hq8 : q = 0 ∨ q = 1 ∨ q = 2 ∨ q = 3 ∨ q = 4 ∨ q = 5 ∨ q = 6 ∨ q = 7 := by omega
            have hI8 : I = 56 ∨ I = 48 ∨ I = 40 ∨ I = 32 ∨ I = 24 ∨ I = 16 ∨ I = 8 ∨ I = 0 := by omega
            clear hq8
            rcases hI8 with rfl | rfl | rfl | rfl | rfl | rfl | rfl | rfl
            · have hv2 : X / 72057594037927936 = (bb.toNat : Int) := by
                have := Hval.out
                simp only [Int.reducePow, Int.reduceToNat, Int.ediv_one, Int.pow_zero] at this
                omega
              have Hv2 := Lib.hid hv2
              clear hv2
              go_wp2_with (at_builtin; go_must (refine wpList_appF _ rfl _ _ _ _ rfl tyBytes w.heap.size (.slice a5 l2.length c5) l2.length (byV l2) rfl ?own (.slice (some ⟨wr.heap.size, 0, none⟩) 1 1) 1 [.int .u8 (X / 72057594037927936)] rfl ?src L6.length Hl6.out (byV L6) ?hz ?h63 ?hby ?hba ?go))
              case own => exact HO2'.out.ext ((Ext.refl (fun _ => False) _).alloc _) (fun _ _ h => h)
              case src => exact src_one Tryd.underlying69 rfl
              case hz => rw [HL6.out, byV_append, Hv2.out]; rfl
              case h63 => unfold maxLen; omega
              case hby => omega
              case hba => simp; omega
              case go =>
                intro a7 c7 w7 hown hgrow _
                have HO7 := Lib.hid hown.bytes
                have HB7 := Lib.hid (Bl.grown (HB2'.out.alloc hzr2 _) hgrow (fun k hk => (HO2'.out.lt k hk).1))
                clear hown hgrow
                go_wp2
                go_roundw
                case rel =>
                  have := HI.out
                  exact ⟨_, L6, q + 1, rfl, by congr 1; omega, by omega, Hstep.out.symm, HO7.out, HB7.out⟩
                case measure => simp [intOf]
            · have hv2 : X / 281474976710656 = (bb.toNat : Int) := by
                have := Hval.out
                simp only [Int.reducePow, Int.reduceToNat, Int.ediv_one, Int.pow_zero] at this
                omega
              have Hv2 := Lib.hid hv2
              clear hv2
              go_wp2_with (at_builtin; go_must (refine wpList_appF _ rfl _ _ _ _ rfl tyBytes w.heap.size (.slice a5 l2.length c5) l2.length (byV l2) rfl ?own (.slice (some ⟨wr.heap.size, 0, none⟩) 1 1) 1 [.int .u8 (X / 281474976710656)] rfl ?src L6.length Hl6.out (byV L6) ?hz ?h63 ?hby ?hba ?go))
              case own => exact HO2'.out.ext ((Ext.refl (fun _ => False) _).alloc _) (fun _ _ h => h)
              case src => exact src_one Tryd.underlying69 rfl
              case hz => rw [HL6.out, byV_append, Hv2.out]; rfl
              case h63 => unfold maxLen; omega
              case hby => omega
              case hba => simp; omega
              case go =>
                intro a7 c7 w7 hown hgrow _
                have HO7 := Lib.hid hown.bytes
                have HB7 := Lib.hid (Bl.grown (HB2'.out.alloc hzr2 _) hgrow (fun k hk => (HO2'.out.lt k hk).1))
                clear hown hgrow
                go_wp2
                go_roundw
                case rel =>
                  have := HI.out
                  exact ⟨_, L6, q + 1, rfl, by congr 1; omega, by omega, Hstep.out.symm, HO7.out, HB7.out⟩
                case measure => simp [intOf]
            · have hv2 : X / 1099511627776 % 256 = (bb.toNat : Int) := by
                have := Hval.out
                simp only [Int.reducePow, Int.reduceToNat, Int.ediv_one, Int.pow_zero] at this
                omega
              have Hv2 := Lib.hid hv2
              clear hv2
              go_wp2_with (at_builtin; go_must (refine wpList_appF _ rfl _ _ _ _ rfl tyBytes w.heap.size (.slice a5 l2.length c5) l2.length (byV l2) rfl ?own (.slice (some ⟨wr.heap.size, 0, none⟩) 1 1) 1 [.int .u8 (X / 1099511627776 % 256)] rfl ?src L6.length Hl6.out (byV L6) ?hz ?h63 ?hby ?hba ?go))
              case own => exact HO2'.out.ext ((Ext.refl (fun _ => False) _).alloc _) (fun _ _ h => h)
              case src => exact src_one Tryd.underlying69 rfl
              case hz => rw [HL6.out, byV_append, Hv2.out]; rfl
              case h63 => unfold maxLen; omega
              case hby => omega
              case hba => simp; omega
              case go =>
                intro a7 c7 w7 hown hgrow _
                have HO7 := Lib.hid hown.bytes
                have HB7 := Lib.hid (Bl.grown (HB2'.out.alloc hzr2 _) hgrow (fun k hk => (HO2'.out.lt k hk).1))
                clear hown hgrow
                go_wp2
                go_roundw
                case rel =>
                  have := HI.out
                  exact ⟨_, L6, q + 1, rfl, by congr 1; omega, by omega, Hstep.out.symm, HO7.out, HB7.out⟩
                case measure => simp [intOf]
            · have hv2 : X / 4294967296 % 256 = (bb.toNat : Int) := by
                have := Hval.out
                simp only [Int.reducePow, Int.reduceToNat, Int.ediv_one, Int.pow_zero] at this
                omega
              have Hv2 := Lib.hid hv2
              clear hv2
              go_wp2_with (at_builtin; go_must (refine wpList_appF _ rfl _ _ _ _ rfl tyBytes w.heap.size (.slice a5 l2.length c5) l2.length (byV l2) rfl ?own (.slice (some ⟨wr.heap.size, 0, none⟩) 1 1) 1 [.int .u8 (X / 4294967296 % 256)] rfl ?src L6.length Hl6.out (byV L6) ?hz ?h63 ?hby ?hba ?go))
              case own => exact HO2'.out.ext ((Ext.refl (fun _ => False) _).alloc _) (fun _ _ h => h)
              case src => exact src_one Tryd.underlying69 rfl
              case hz => rw [HL6.out, byV_append, Hv2.out]; rfl
              case h63 => unfold maxLen; omega
              case hby => omega
              case hba => simp; omega
              case go =>
                intro a7 c7 w7 hown hgrow _
                have HO7 := Lib.hid hown.bytes
                have HB7 := Lib.hid (Bl.grown (HB2'.out.alloc hzr2 _) hgrow (fun k hk => (HO2'.out.lt k hk).1))
                clear hown hgrow
                go_wp2
                go_roundw
                case rel =>
                  have := HI.out
                  exact ⟨_, L6, q + 1, rfl, by congr 1; omega, by omega, Hstep.out.symm, HO7.out, HB7.out⟩
                case measure => simp [intOf]
            · have hv2 : X / 16777216 % 256 = (bb.toNat : Int) := by
                have := Hval.out
                simp only [Int.reducePow, Int.reduceToNat, Int.ediv_one, Int.pow_zero] at this
                omega
              have Hv2 := Lib.hid hv2
              clear hv2
              go_wp2_with (at_builtin; go_must (refine wpList_appF _ rfl _ _ _ _ rfl tyBytes w.heap.size (.slice a5 l2.length c5) l2.length (byV l2) rfl ?own (.slice (some ⟨wr.heap.size, 0, none⟩) 1 1) 1 [.int .u8 (X / 16777216 % 256)] rfl ?src L6.length Hl6.out (byV L6) ?hz ?h63 ?hby ?hba ?go))
              case own => exact HO2'.out.ext ((Ext.refl (fun _ => False) _).alloc _) (fun _ _ h => h)
              case src => exact src_one Tryd.underlying69 rfl
              case hz => rw [HL6.out, byV_append, Hv2.out]; rfl
              case h63 => unfold maxLen; omega
              case hby => omega
              case hba => simp; omega
              case go =>
                intro a7 c7 w7 hown hgrow _
                have HO7 := Lib.hid hown.bytes
                have HB7 := Lib.hid (Bl.grown (HB2'.out.alloc hzr2 _) hgrow (fun k hk => (HO2'.out.lt k hk).1))
                clear hown hgrow
                go_wp2
                go_roundw
                case rel =>
                  have := HI.out
                  exact ⟨_, L6, q + 1, rfl, by congr 1; omega, by omega, Hstep.out.symm, HO7.out, HB7.out⟩
                case measure => simp [intOf]
            · have hv2 : X / 65536 % 256 = (bb.toNat : Int) := by
                have := Hval.out
                simp only [Int.reducePow, Int.reduceToNat, Int.ediv_one, Int.pow_zero] at this
                omega
              have Hv2 := Lib.hid hv2
              clear hv2
              go_wp2_with (at_builtin; go_must (refine wpList_appF _ rfl _ _ _ _ rfl tyBytes w.heap.size (.slice a5 l2.length c5) l2.length (byV l2) rfl ?own (.slice (some ⟨wr.heap.size, 0, none⟩) 1 1) 1 [.int .u8 (X / 65536 % 256)] rfl ?src L6.length Hl6.out (byV L6) ?hz ?h63 ?hby ?hba ?go))
              case own => exact HO2'.out.ext ((Ext.refl (fun _ => False) _).alloc _) (fun _ _ h => h)
              case src => exact src_one Tryd.underlying69 rfl
              case hz => rw [HL6.out, byV_append, Hv2.out]; rfl
              case h63 => unfold maxLen; omega
              case hby => omega
              case hba => simp; omega
              case go =>
                intro a7 c7 w7 hown hgrow _
                have HO7 := Lib.hid hown.bytes
                have HB7 := Lib.hid (Bl.grown (HB2'.out.alloc hzr2 _) hgrow (fun k hk => (HO2'.out.lt k hk).1))
                clear hown hgrow
                go_wp2
                go_roundw
                case rel =>
                  have := HI.out
                  exact ⟨_, L6, q + 1, rfl, by congr 1; omega, by omega, Hstep.out.symm, HO7.out, HB7.out⟩
                case measure => simp [intOf]
            · have hv2 : X / 256 % 256 = (bb.toNat : Int) := by
                have := Hval.out
                simp only [Int.reducePow, Int.reduceToNat, Int.ediv_one, Int.pow_zero] at this
                omega
              have Hv2 := Lib.hid hv2
              clear hv2
              go_wp2_with (at_builtin; go_must (refine wpList_appF _ rfl _ _ _ _ rfl tyBytes w.heap.size (.slice a5 l2.length c5) l2.length (byV l2) rfl ?own (.slice (some ⟨wr.heap.size, 0, none⟩) 1 1) 1 [.int .u8 (X / 256 % 256)] rfl ?src L6.length Hl6.out (byV L6) ?hz ?h63 ?hby ?hba ?go))
              case own => exact HO2'.out.ext ((Ext.refl (fun _ => False) _).alloc _) (fun _ _ h => h)
              case src => exact src_one Tryd.underlying69 rfl
              case hz => rw [HL6.out, byV_append, Hv2.out]; rfl
              case h63 => unfold maxLen; omega
              case hby => omega
              case hba => simp; omega
              case go =>
                intro a7 c7 w7 hown hgrow _
                have HO7 := Lib.hid hown.bytes
                have HB7 := Lib.hid (Bl.grown (HB2'.out.alloc hzr2 _) hgrow (fun k hk => (HO2'.out.lt k hk).1))
                clear hown hgrow
                go_wp2
                go_roundw
                case rel =>
                  have := HI.out
                  exact ⟨_, L6, q + 1, rfl, by congr 1; omega, by omega, Hstep.out.symm, HO7.out, HB7.out⟩
                case measure => simp [intOf]
            · have hv2 : X % 256 = (bb.toNat : Int) := by
                have := Hval.out
                simp only [Int.reducePow, Int.reduceToNat, Int.ediv_one, Int.pow_zero] at this
                omega
              have Hv2 := Lib.hid hv2
              clear hv2
              go_wp2_with (at_builtin; go_must (refine wpList_appF _ rfl _ _ _ _ rfl tyBytes w.heap.size (.slice a5 l2.length c5) l2.length (byV l2) rfl ?own (.slice (some ⟨wr.heap.size, 0, none⟩) 1 1) 1 [.int .u8 (X % 256)] rfl ?src L6.length Hl6.out (byV L6) ?hz ?h63 ?hby ?hba ?go))
              case own => exact HO2'.out.ext ((Ext.refl (fun _ => False) _).alloc _) (fun _ _ h => h)
              case src => exact src_one Tryd.underlying69 rfl
              case hz => rw [HL6.out, byV_append, Hv2.out]; rfl
              case h63 => unfold maxLen; omega
              case hby => omega
              case hba => simp; omega
              case go =>
                intro a7 c7 w7 hown hgrow _
                have HO7 := Lib.hid hown.bytes
                have HB7 := Lib.hid (Bl.grown (HB2'.out.alloc hzr2 _) hgrow (fun k hk => (HO2'.out.lt k hk).1))
                clear hown hgrow
                go_wp2
                go_roundw
                case rel =>
                  have := HI.out
                  exact ⟨_, L6, q + 1, rfl, by congr 1; omega, by omega, Hstep.out.symm, HO7.out, HB7.out⟩
                case measure => simp [intOf]
          · obtain rfl : q = 8 := by omega
            go_wp2
            go_ret
            refine ⟨_, rfl, ?_, HB2'.out⟩
            have e : bl s ++ fill n = l2 := by
              rw [fill_eq, Hl2e.out, Hlb.out, HL1.out]
              simp only [List.append_assoc]
            rw [e]
            exact HO2'.out

end Go.Proofs.YtfodloepkgkilaaDoor.ShaF
