/-
  WHAT IS PROVED: the program's sum of bytes is the one that plain Lean computes. Condition: the variables hold what 'VarsH' says, and the bytes are not longer than the theorem says.
-/
import Derived.Test.YtfodloepkgkilaaDoorShaF
namespace Go.Proofs.YtfodloepkgkilaaDoor.ShaM
open Go Go.RowKit Go.Proofs.YtfodloepkgkilaaDoor Go.Proofs.YtfodloepkgkilaaDoor.U32 Go.Proofs.YtfodloepkgkilaaDoor.ShaS Go.Proofs.YtfodloepkgkilaaDoor.ShaW Go.Proofs.YtfodloepkgkilaaDoor.ShaA Go.Proofs.YtfodloepkgkilaaDoor.ShaB Go.Proofs.YtfodloepkgkilaaDoor.ShaF Go.Proofs.YtfodloepkgkilaaDoor.OctP Go.Proofs.YtfodloepkgkilaaDoor.Steps
set_option linter.unusedVariables false
set_option linter.unusedSimpArgs false

/-- The sum behind some blocks. -/
def acc (v : List UInt32) (b : List UInt8) : Nat → List UInt32
  | 0 => v
  | k + 1 => addB (acc v b k) ((b.drop (64 * k)).take 64)
theorem acc_length {v : List UInt32} (h : v.length = 8) (b : List UInt8) : ∀ k, (acc v b k).length = 8
  | 0 => h
  | k + 1 => addB_length (acc_length h b k) _
theorem acc_shift (v : List UInt32) (b : List UInt8) : ∀ k, acc v b (k + 1) = acc (addB v (b.take 64)) (b.drop 64) k
  | 0 => by simp [acc]
  | k + 1 => by
    rw [acc, acc_shift v b k, acc, List.drop_drop, show 64 * (k + 1) = 64 + 64 * k by omega]
theorem sumB_acc : ∀ (m : Nat) (v : List UInt32) (b : List UInt8), b.length = 64 * m → sumB v b = acc v b m
  | 0, v, b, h => by rw [sumB_lt (by omega)]; rfl
  | m + 1, v, b, h => by
    rw [sumB_ge (by omega), sumB_acc m _ _ (by rw [List.length_drop]; omega), acc_shift]
theorem pad_blocks (s : List UInt8) : (pad s).length = 64 * ((pad s).length / 64) := by
  have := pad_length s
  omega
/-- A block ahead of the last bytes. -/
theorem pad_block {s : List UInt8} {k : Nat} (h : 64 * (k + 1) ≤ s.length) : ((pad s).drop (64 * k)).take 64 = (s.drop (64 * k)).take 64 := by
  unfold pad
  rw [List.drop_append_of_le_length (by omega), List.take_append_of_le_length (by rw [List.length_drop]; omega)]
theorem pad_rest {s : List UInt8} {q : Nat} (h : 64 * q ≤ s.length) : (pad s).drop (64 * q) = s.drop (64 * q) ++ fill s.length := by
  unfold pad
  rw [List.drop_append_of_le_length h]

def sizeV : Value → Nat
  | .string s => s.size
  | .slice _ n _ => n
  | _ => 0

set_option maxRecDepth 100000 in
set_option maxHeartbeats 4000000 in
theorem Sum_ok (w : World) (s : ByteArray) (hs : s.size ≤ 140737488355328) (hk : VarsH w) :
    Calls Tryd.prog 63 #[.string s] w fun e w' => e = .returned (.agg (byV (ShaS.sum (bl s))).toArray) ∧ Below w.heap.size w w' := by
  have hbg : ∀ i, i < 8 → w.cell? ⟨2, i, none⟩ = some (.int .u32 (u (beginL.getD i 0))) := hk.b
  have b0 : w.cell? ⟨2, 0, none⟩ = some (.int .u32 1779033703) := hbg 0 (by omega)
  have b1 : w.cell? ⟨2, 1, none⟩ = some (.int .u32 3144134277) := hbg 1 (by omega)
  have b2 : w.cell? ⟨2, 2, none⟩ = some (.int .u32 1013904242) := hbg 2 (by omega)
  have b3 : w.cell? ⟨2, 3, none⟩ = some (.int .u32 2773480762) := hbg 3 (by omega)
  have b4 : w.cell? ⟨2, 4, none⟩ = some (.int .u32 1359893119) := hbg 4 (by omega)
  have b5 : w.cell? ⟨2, 5, none⟩ = some (.int .u32 2600822924) := hbg 5 (by omega)
  have b6 : w.cell? ⟨2, 6, none⟩ = some (.int .u32 528734635) := hbg 6 (by omega)
  have b7 : w.cell? ⟨2, 7, none⟩ = some (.int .u32 1541459225) := hbg 7 (by omega)
  have hgl : 2 < w.heap.size := World.block_lt_of_cell? w _ b0
  have Hk := Lib.hid hk
  obtain ⟨W0, hW0⟩ : ∃ W0, W0 = (w.alloc (.cells #[.int .u8 0, .int .u8 0, .int .u8 0, .int .u8 0, .int .u8 0, .int .u8 0, .int .u8 0, .int .u8 0, .int .u8 0, .int .u8 0, .int .u8 0, .int .u8 0, .int .u8 0, .int .u8 0, .int .u8 0, .int .u8 0, .int .u8 0, .int .u8 0, .int .u8 0, .int .u8 0, .int .u8 0, .int .u8 0, .int .u8 0, .int .u8 0, .int .u8 0, .int .u8 0, .int .u8 0, .int .u8 0, .int .u8 0, .int .u8 0, .int .u8 0, .int .u8 0] 38)).alloc (.cells #[.int .u32 1779033703, .int .u32 3144134277, .int .u32 1013904242, .int .u32 2773480762, .int .u32 1359893119, .int .u32 2600822924, .int .u32 528734635, .int .u32 1541459225] 118) := ⟨_, rfl⟩
  have hB0 : Below w.heap.size w W0 := by rw [hW0]; exact ((Below.refl _ w).alloc (Nat.le_refl _) _).alloc (by simp) _
  have hx0 : W0.heap[w.heap.size]? = some (.cells (pB 32 []) 38 (0, 0)) := by rw [hW0]; exact heap_at (heap_new _ _) _
  have hv0 : W0.heap[w.heap.size + 1]? = some (.cells (wV beginL).toArray 118 (0, 0)) := by rw [hW0]; exact heap_new' _ (by simp)
  have HB0 := Lib.hid hB0
  have HW0 := Lib.hid hW0
  have hi : (Tryd.prog.info? 38).map (·.size) = some 32 := by kernel_rfl
  have Hi := Lib.hid hi
  clear hB0 hW0 hbg hk hi
  go_enter Tryd.func63, Tryd.ntmps63
  go_wp2
  go_loopw [0] (fun x wr => ∃ (S : ByteArray) (k : Nat), x = .string S ∧ 64 * k ≤ s.size ∧ bl S = (bl s).drop (64 * k) ∧ wr.heap[w.heap.size]? = some (.cells (pB 32 []) 38 (0, 0)) ∧ wr.heap[w.heap.size + 1]? = some (.cells (wV (acc beginL (pad (bl s)) k)).toArray 118 (0, 0)) ∧ Below w.heap.size w wr) (fun x _ => sizeV x)
  case atStart =>
    rw [← HW0.out]
    exact ⟨s, 0, rfl, by omega, by simp, hx0, hv0, HB0.out⟩
  case round =>
    obtain ⟨S, k, rfl, hk64, hS, hx, hv, hb⟩ := hrel
    clear hx0 hv0
    have hSz : S.size = s.size - 64 * k := by rw [← bl_length, hS, List.length_drop, bl_length]
    have hSz1 : S.size + 64 * k ≤ s.size := by omega
    have hSz2 : s.size ≤ S.size + 64 * k := by omega
    have HS := Lib.hid hS
    have Hx := Lib.hid hx
    have Hv := Lib.hid hv
    have HB := Lib.hid hb
    have hvl := lt_row hv
    have ha8 := acc_length (v := beginL) rfl (pad (bl s)) k
    have Ha8 := Lib.hid ha8
    clear hS hx hv hb hSz ha8
    by_cases hge : 64 ≤ S.size
    · obtain ⟨T, hT⟩ : ∃ T, T = S.extract 0 64 := ⟨_, rfl⟩
      have hbT : bl T = ((pad (bl s)).drop (64 * k)).take 64 := by
        rw [hT, bl_extract, pad_block (by rw [bl_length]; omega), HS.out]
        rfl
      have hTz : T.size = 64 := by rw [hT, ByteArray.size_extract]; omega
      have ho := ow_bytes wr (base := wr.heap.size) 5 T (by unfold maxLen; omega) (Nat.le_refl _)
      have hbel := below_bytes wr 5 T
      have hcv := Go.Lib.run_convert_string_bytes (P := Tryd.prog) wr 9 69 5 T (u := .string) Tryd.underlying9 Tryd.underlying69 Tryd.underlying5
      obtain ⟨W1, hW1⟩ : ∃ W1, W1 = Go.Lib.bytesWorld wr 5 T := ⟨_, rfl⟩
      rw [← hW1] at ho hbel hcv
      rw [hTz] at ho hcv
      have hA := add_ok W1 (w.heap.size + 1) _ Ha8.out ((hbel.block _ hvl).trans Hv.out) _ (bl T) (by rw [bl_length]; exact hTz) ho.sl (Hk.out.below (HB.out.trans (hbel.mono HB.out.size)))
      rw [hT] at hcv
      have HA := Lib.hid hA
      have HbT := Lib.hid hbT
      have HBel := Lib.hid hbel
      clear hA hbT hbel ho hT hTz hW1
      go_wp2_with fail
      refine HA.out.mono ?_
      rintro e w2 ⟨rfl, hv2, hE2⟩
      have hv3 : w2.heap[w.heap.size + 1]? = some (.cells (wV (acc beginL (pad (bl s)) (k + 1))).toArray 118 (0, 0)) := by rw [acc, ← HbT.out]; exact hv2
      have Hv3 := Lib.hid hv3
      have Hx3 := Lib.hid ((hE2.block _ (by have := HBel.out.size; omega) (by simp)).trans ((HBel.out.block _ (by omega)).trans Hx.out))
      have HB3 := Lib.hid (Bl.ext (HB.out.trans (HBel.out.mono HB.out.size)) hE2 (fun k hk h => by omega))
      clear hv2 hE2 hv3 hcv
      go_wp2
      go_roundw
      case rel =>
        refine ⟨_, k + 1, rfl, by omega, ?_, Hx3.out, Hv3.out, HB3.out⟩
        rw [bl_extract, HS.out, List.drop_drop, List.take_of_length_le (by rw [List.length_drop, bl_length]; omega)]
        congr 1
      case measure => simp [sizeV]; omega
    · have hF := fill_ok wr S s.size (by omega) hs (by omega)
      have hpd : bl S ++ fill s.size = (pad (bl s)).drop (64 * k) := by
        rw [pad_rest (by rw [bl_length]; exact hk64), HS.out, bl_length]
      rw [hpd] at hF
      have HF := Lib.hid hF
      clear hF hpd
      go_wp2_with fail
      refine HF.out.mono ?_
      rintro e w3 ⟨v', rfl, hov, hb3⟩
      obtain ⟨a4, c4, rfl, hn4, hm4⟩ := hov.form
      obtain ⟨P, hP⟩ : ∃ P, P = pad (bl s) := ⟨_, rfl⟩
      have hPm : P.length % 64 = 0 := by rw [hP]; exact pad_length _
      have hPl : P.length ≤ s.size + 200 := by rw [hP, pad, List.length_append, fill_length, bl_length]; omega
      rw [← hP] at hov Hv Ha8
      have hkl : 64 * k ≤ P.length := by rw [hP, pad, List.length_append, bl_length]; omega
      have hn5 : (P.drop (64 * k)).length = P.length - 64 * k := List.length_drop
      obtain ⟨n4, hn6⟩ : ∃ n4, n4 = (P.drop (64 * k)).length := ⟨_, rfl⟩
      rw [← hP, ← hn6]
      have hsl := hov.sl
      rw [← hn6] at hsl
      have hob : ∀ kb, (Value.slice a4 n4 c4).ownBlock = some kb → w.heap.size + 2 ≤ kb := fun kb h => by
        have := (hov.lt kb (by rw [← h]; cases a4 <;> rfl)).1
        omega
      have hn7 : n4 + 64 * k ≤ P.length := by omega
      have hn8 : P.length ≤ n4 + 64 * k := by omega
      have hv3 := (hb3.block _ hvl).trans Hv.out
      have hx3 := (hb3.block _ (by omega)).trans Hx.out
      have hb4 := HB.out.trans (hb3.mono HB.out.size)
      have Hsl := Lib.hid hsl
      have Hob := Lib.hid hob
      have HP := Lib.hid hP
      have Hv3 := Lib.hid hv3
      have Hx3 := Lib.hid hx3
      have HB3 := Lib.hid hb4
      clear hP hov hn5 hn6 hsl hob hv3 hx3 hb4 hb3 HF Hv Hx HB
      go_wp2
      obtain ⟨wo, rfl⟩ : ∃ wo : World, wo = wr := ⟨_, rfl⟩
      go_loopw [5] (fun x wq => ∃ (a : Option Addr) (n c q : Nat), x = .slice a n c ∧ n + 64 * q ≤ P.length ∧ P.length ≤ n + 64 * q ∧ Sl wq (.slice a n c) 1 n (byV (P.drop (64 * q))) ∧ (∀ kb, (Value.slice a n c).ownBlock = some kb → w.heap.size + 2 ≤ kb) ∧
        wq.heap[w.heap.size]? = some (.cells (pB 32 []) 38 (0, 0)) ∧ wq.heap[w.heap.size + 1]? = some (.cells (wV (acc beginL P q)).toArray 118 (0, 0)) ∧ Below w.heap.size w wq) (fun x _ => sizeV x)
      case atStart => exact ⟨a4, n4, c4, k, rfl, hn7, hn8, Hsl.out, Hob.out, Hx3.out, Hv3.out, HB3.out⟩
      case round =>
        obtain ⟨a, n, c, q, rfl, hq1, hq2, hsl, hob, hx, hv, hb⟩ := hrel
        have hvl := lt_row hv
        have ha8 := acc_length (v := beginL) rfl P q
        have Ha := Lib.hid ha8
        have Hsl5 := Lib.hid hsl
        have Hob5 := Lib.hid hob
        have Hx5 := Lib.hid hx
        have Hv5 := Lib.hid hv
        have HB5 := Lib.hid hb
        obtain ⟨_, c', hce, hnc, hcm⟩ := hsl.form
        cases hce
        clear ha8 hob hx hv hb
        by_cases hpos : 0 < n
        · obtain ⟨B, off, rfl, hBl, hcell⟩ := hsl.plain (by rw [byV_length, List.length_drop]; omega)
          have hn64 : 64 ≤ n := by omega
          have htk := hsl.take hn64
          have hA := add_ok wr (w.heap.size + 1) _ Ha.out Hv5.out _ ((P.drop (64 * q)).take 64) (by rw [List.length_take, List.length_drop]; omega) (by
            unfold byV at htk ⊢
            rw [List.map_take]
            exact htk) (Hk.out.below HB5.out)
          have HA := Lib.hid hA
          clear hA htk hcell hsl
          have e6 : ((byV (P.drop (64 * q))).take (n * 1)).drop (64 * 1) = byV (P.drop (64 * (q + 1))) := by
            rw [List.take_of_length_le (by rw [byV_length, List.length_drop]; omega)]
            unfold byV
            rw [← List.map_drop, List.drop_drop, show 64 * q + 64 * 1 = 64 * (q + 1) by omega]
          have HE6 := Lib.hid e6
          have hBn : w.heap.size + 2 ≤ B := Hob5.out B rfl
          clear e6
          by_cases hc64 : c = 64
          · subst hc64
            obtain rfl : n = 64 := by omega
            go_wp2_with fail
            refine HA.out.mono ?_
            rintro e w6 ⟨rfl, hv6, hE6⟩
            have hs6 := (Hsl5.out.cut (k := 64) (m := 64) (A := ⟨B, off, none⟩) hn64 (Nat.le_refl _) (by simp)).ext hE6 (fun kb h hS => by simp [Value.ownBlock] at h; omega)
            rw [HE6.out] at hs6
            have Hs6 := Lib.hid hs6
            have Hv6 := Lib.hid hv6
            have Hx6 := Lib.hid ((hE6.block _ (by omega) (by simp)).trans Hx5.out)
            have HB6 := Lib.hid (Bl.ext HB5.out hE6 (fun k hk h => by omega))
            clear hs6 hv6 hE6
            go_wp2
            go_roundw
            case rel => exact ⟨_, _, _, q + 1, rfl, by omega, by omega, Hs6.out, fun kb h => by simp [Value.ownBlock] at h; omega, Hx6.out, Hv6.out, HB6.out⟩
            case measure => simp [sizeV]
          · go_wp2_with fail
            refine HA.out.mono ?_
            rintro e w6 ⟨rfl, hv6, hE6⟩
            have hs6 := (Hsl5.out.cut (k := 64) (m := n) (A := ⟨B, off + 64, none⟩) hn64 (Nat.le_refl _) (by rw [if_neg hc64, Addr.add_mid])).ext hE6 (fun kb h hS => by simp [Value.ownBlock] at h; omega)
            rw [HE6.out] at hs6
            have Hs6 := Lib.hid hs6
            have Hv6 := Lib.hid hv6
            have Hx6 := Lib.hid ((hE6.block _ (by omega) (by simp)).trans Hx5.out)
            have HB6 := Lib.hid (Bl.ext HB5.out hE6 (fun k hk h => by omega))
            clear hs6 hv6 hE6
            go_wp2
            go_roundw
            case rel => exact ⟨_, _, _, q + 1, rfl, by omega, by omega, Hs6.out, fun kb h => by simp [Value.ownBlock] at h; omega, Hx6.out, Hv6.out, HB6.out⟩
            case measure => simp [sizeV]; omega
        · have hsum : (acc beginL P q).flatMap be = ShaS.sum (bl s) := by
            unfold ShaS.sum
            rw [← HP.out, sumB_acc q beginL P (by omega)]
          have hBy := bytes_ok wr (w.heap.size + 1) _ Ha.out Hv5.out
          rw [hsum] at hBy
          have hl32 : (byV (ShaS.sum (bl s))).toArray.size = 32 := by simp [byV_length, sum_length]
          have hone : (byV (ShaS.sum (bl s))).toArray.all (·.oneCell') = true := by simp [byV, Value.oneCell']
          obtain ⟨p, hp⟩ : ∃ p, p = (byV (ShaS.sum (bl s))).toArray := ⟨_, rfl⟩
          rw [← hp] at hBy hl32 hone
          have HBy := Lib.hid hBy
          have Hone := Lib.hid hone
          have Hl32 := Lib.hid hl32
          have Hp := Lib.hid hp
          clear hBy hone hl32 hp hsum hsl
          go_wp2_with fail
          refine HBy.out.mono ?_
          rintro e w6 ⟨rfl, hb6⟩
          have Hx6 := Lib.hid ((hb6.block _ (by omega)).trans Hx5.out)
          have HB6 := Lib.hid (HB5.out.trans (hb6.mono HB5.out.size))
          clear hb6
          go_wp2_with (refine wpList_store_row rfl _ _ _ rfl w.heap.size p rfl rfl _ _ Hx6.out (by rw [Hl32.out]; exact Hi.out) (by rw [Hl32.out]; exact pB_size (by simp)) Hone.out ?_)
          go_wp2
          refine bodyPost_ret (v := .agg p) (results_cell_row rfl _ _ w.heap.size _ p (0, 0) _ rfl (setRow_at Hx6.out) Tryd.underlying38 rfl (by rw [Hl32.out]; exact Hi.out)) rfl ⟨by rw [Hp.out], below_row HB6.out (Nat.le_refl _) _⟩

end Go.Proofs.YtfodloepkgkilaaDoor.ShaM
