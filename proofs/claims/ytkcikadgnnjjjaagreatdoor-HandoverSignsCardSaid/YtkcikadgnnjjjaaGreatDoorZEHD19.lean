/-
  WHAT IS PROVED: by the document a list whose first text is too long has no bytes; an entry's sum, and its bytes. the document's own first half of a sum, steps, starts, digits, and signatures of which each is made once. the document's own public sums, signatures of which each is made once, and what they lead to. a tree's root is what is above both halves' roots; a leaf's path is its half's, and the other half's root. Condition: what each theorem names.
-/
import Derived.Test.YtkcikadgnnjjjaaGreatDoorS0
import Derived.Test.YtkcikadgnnjjjaaGreatDoorZEHD12
import Derived.Test.YtkcikadgnnjjjaaGreatDoorZEHD18
set_option linter.unusedVariables false
set_option linter.unusedSimpArgs false
set_option maxRecDepth 100000
set_option maxHeartbeats 4000000
namespace Go.Proofs.YtkcikadgnnjjjaaGreatDoor.EntZ
open Go Go.RowKit Go.Shelf OctetS IdentS EntS OctP OctG IdentP EntP EventC EventP ShaA Steps KeyA TreeA OctQ EntX EntY
theorem Sum2_ok (w : World) (s : ByteArray) (hs : s.size ≤ 140737488351232) : Calls Tryz.prog 126 #[.string s] w fun e w' => e = .returned (.agg (byV (ShaS.sum (bl s))).toArray) ∧ Below w.heap.size w w' := by
 have h := R2M.Sum_ok w s hs
 have he : ShaB.pB 32 (ShaS.sum (bl s)) = (byV (ShaS.sum (bl s))).toArray := by
  unfold ShaB.pB
  rw [ShaS.sum_length]
  simp
 rw [he] at h
 exact h
end Go.Proofs.YtkcikadgnnjjjaaGreatDoor.EntZ
namespace Go.Proofs.YtkcikadgnnjjjaaGreatDoor.RkA
open Go Go.RowKit Go.Shelf OctP OctG RowsX Lift ShaS KeyS ShaA ShaB Steps KeyA KeyB
open KeyD (conv_one)
attribute [-go_sem] Builtin.append_
theorem Mid2_ok (w : World) (s : ByteArray) (hs : s.size ≤ 140737488351232) : Calls Tryz.prog 123 #[.string s] w (RB (.string (bsOf (mid (bl s)))) w) := by
 obtain ⟨S, hS⟩ := nXe (sum (bl s))
 have hl : S.length = 32 := by rw [hS]; exact sum_length _
 have hmid : mid (bl s) = S.take 16 := by rw [hS]; rfl
 rw [hmid]
 have hC := fun w => EntZ.Sum2_ok w s hs
 rw [← hS] at hC
 clear hS hmid
 obtain ⟨X, hX⟩ := nXe ((byV S).toArray)
 have hXn : X.size = 32 := by rw [hX]; simp [byV, hl]
 have HXS : Hid ((Tryz.prog.info? 25).map (·.size) = some X.size) := lh (by rw [hXn]; kernel_rfl)
 have HXN : Hid (32 = X.size) := lh hXn.symm
 have HXO : Hid (X.all (·.oneCell') = true) := lh (by rw [hX]; simp [byV, Value.oneCell'])
 have HX := lh hX
 rw [← hX] at hC
 have HC := lh hC
 have HL := lh hl
 clear hC hX hXn hl
 go_enter Tryz.func123, Tryz.ntmps123
 go_wp2_with fail
 refine (HC.out w).mono ?_
 rintro e w1 ⟨rfl, hb⟩
 have HB1 := lh hb
 clear hb
 go_wp2_with (first | (refine wpList_store_rowA rfl _ _ _ rfl w1.heap.size X rfl rfl _ _ (heap_new _ _) HXS.out (by rw [← HXN.out]; rfl) HXO.out ?_) | fail)
 intro u1 hu1
 have hb : Below w1.heap.size w1 u1 := by rw [hu1.out]; exact below_row bAx (Nat.le_refl _) _
 have hy : u1.heap[w1.heap.size]? = some (.cells X 25 (0, 0)) := by rw [hu1.out]; exact setRow_at (heap_new _ _)
 clear hu1
 obtain ⟨w2, hww⟩ : ∃ w', w' = u1 := ⟨_, rfl⟩
 rw [← hww] at hb hy ⊢
 clear hww
 have HB2 := tbB HB1 hb
 have hsl : Sl w2 (.slice (some ⟨w1.heap.size, 0, none⟩) 16 32) 1 (S.take 16).length (byV (S.take 16)) := by
  have h32 := EventB.sl_built (n := 32) hy HXN.out (by simp [maxLen])
  rw [HX.out] at h32
  have h16 := Sl.take h32 (show 16 ≤ 32 by omega)
  have e : (S.take 16).length = 16 := by rw [List.length_take, HL.out]; rfl
  rw [e]
  simpa [byV, List.map_take] using h16
 have hcv := run_text' w2 101 9 5 Tryz.underlying101 Tryz.underlying5 Tryz.underlying9 _ _ hsl
 have Hy := lh hy
 clear hb hsl
 obtain ⟨cx, fx⟩ := row_facts Hy.out
 clear hy
 go_wp2
 go_ret
 exact ⟨rfl, HB2.out⟩
theorem on2_ok (w : World) (s : ByteArray) (n : Nat) (hs : s.size = 16) (hn : n ≤ 3) : Calls Tryz.prog 121 #[.string s, .int .i64 n] w (RB (.string (bsOf (on n (bl s)))) w) := by
 have hC := fun w s hs => Mid2_ok w s hs
 have HC := lh hC
 clear hC
 go_enter Tryz.func121, Tryz.ntmps121
 go_wp2
 go_loopw [0, 5] (fun x i wr => ∃ (k : Nat) (X : ByteArray), x = .string X ∧ i = .int .i64 k ∧ k ≤ n ∧ X.size = 16 ∧ Hid (on (n - k) (bl X) = on n (bl s)) ∧ Below w.heap.size w wr)
  (fun _ i _ => n - (intOf i).toNat)
 case atStart => exact ⟨0, s, rfl, rfl, by omega, hs, lh rfl, Below.refl _ _⟩
 case round =>
  obtain ⟨k, X, rfl, rfl, hk, hX, hon, hb⟩ := hrel
  have Hb := lh hb
  clear hb
  by_cases hlt : k < n
  ·skip
   obtain ⟨Y, hY⟩ := nXe (bsOf [2] ++ X)
   have hYb : bl Y = 2 :: bl X := by rw [hY]; simp [bl, bsOf]
   have hYs : Y.size = 17 := by rw [← bl_length, hYb, List.length_cons, bl_length, hX]
   have hcat : (⟨#[2]⟩ ++ X : ByteArray) = Y := hY.symm
   have hlen : ¬ 9223372036854775807 < 1 + X.size := by omega
   have HYb := lh hYb
   have HYs := lh hYs
   clear hY hYb hYs
   go_wp2_with fail
   refine (HC.out wr Y (by have := HYs.out; omega)).mono ?_
   rintro e w1 ⟨rfl, hb⟩
   have Hb1 := tbB Hb hb
   clear hb
   go_wp2
   go_roundw
   case rel => exact ⟨k + 1, _, rfl, by go_num, by omega, by rw [size_bsOf, mid_length], lh (by rw [← hon.out, bl_bsOf, HYb.out, show n - k = (n - (k + 1)) + 1 by omega]; rfl), Hb1.out⟩
   case measure => simp [intOf]; omega
  ·obtain rfl : k = n := by omega
   go_wp2
   go_ret
   refine ⟨?_, Hb.out⟩
   have h := hon.out
   rw [Nat.sub_self] at h
   rw [← h]
   show Ending.returned (.string X) = .returned (.string (bsOf (bl X)))
   rw [bsOf_bl]
theorem start2_ok (w : World) (s : ByteArray) (i : Nat) (hi : i < 256) (hs : s.size ≤ 1000) :
  Calls Tryz.prog 122 #[.string s, .int .i64 i] w (RB (.string (bsOf (KeyS.start (bl s) i))) w) := by
 have hcv := conv_one w w.heap.size i rfl hi
 obtain ⟨w1, hw1⟩ := nXe (w.alloc (.cells #[.int .u8 (i : Int)] 5))
 have hb1 : Below w.heap.size w w1 := by rw [hw1]; exact bAx
 rw [← hw1] at hcv
 obtain ⟨u, hu⟩ := nXe (bsOf [UInt8.ofNat i])
 have hus : u.size = 1 := by rw [hu]; rfl
 rw [← hu] at hcv
 obtain ⟨S, hS⟩ : ∃ S : ByteArray, S = ⟨#[3]⟩ ++ u ++ s := ⟨_, rfl⟩
 have hSb : bl S = 3 :: UInt8.ofNat i :: bl s := by rw [hS, hu]; simp [bl, bsOf]
 have hSs : S.size ≤ 140737488351232 := by rw [← bl_length, hSb, List.length_cons, List.length_cons, bl_length]; omega
 have hk8 : IntKind.u8.wrap (i : Int) = (i : Int) := by rw [IntKind.wrap_u8']; omega
 have hl1 : ¬ 9223372036854775807 < 1 + u.size := by omega
 have hl2 : ¬ 9223372036854775807 < 1 + u.size + s.size := by omega
 have hM := Mid2_ok w1 S hSs
 have hE : KeyS.start (bl s) i = mid (bl S) := by rw [hSb]; rfl
 rw [hE]
 have HM := lh hM
 have HW1 := lh hw1
 have HCV := lh hcv
 have HS := lh hS
 have HB1 := lh hb1
 clear hM hw1 hcv hS hSb hSs hE hb1 hu
 go_enter Tryz.func122, Tryz.ntmps122
 go_wp2_with fail
 rw [← HW1.out, HCV.out]
 go_wp2_with fail
 rw [← HS.out]
 refine HM.out.mono ?_
 rintro e w2 ⟨rfl, hb⟩
 have HB2 := tbB HB1 hb
 clear hb
 go_wp2
 go_ret
 exact ⟨rfl, HB2.out⟩
theorem seed2_ok (w : World) (s : ByteArray) (h nx : Int) (i : Nat) (hi : i < 256) (hs : s.size ≤ 1000) :
  Calls Tryz.prog 84 #[.agg (KeyI.kyA s h nx), .int .i64 i] w (RB (.string (bsOf (placeSeed (bl s) i))) w) := by
 unfold KeyI.kyA
 obtain ⟨w0, hw0⟩ := nXe (w.alloc (.cells #[.string s, .int .i64 h, .int .i64 nx] 23))
 have hsz0 : w0.heap.size = w.heap.size + 1 := by rw [hw0]; simp
 have hb0 : Below w.heap.size w w0 := by rw [hw0]; exact bAx
 have hcv := conv_one w0 (w.heap.size + 1) i hsz0.symm hi
 obtain ⟨w1, hw1⟩ := nXe (w0.alloc (.cells #[.int .u8 (i : Int)] 5))
 have hb1 : Below w.heap.size w w1 := by rw [hw1]; exact hb0.alloc (by omega) _
 have hc0 : w1.cell? ⟨w.heap.size, 0, none⟩ = some (.string s) := by rw [hw1, hw0]; rw [cell_row (heap_at (heap_new _ _) _)]; rfl
 rw [← hw1] at hcv
 obtain ⟨u, hu⟩ := nXe (bsOf [UInt8.ofNat i])
 have hus : u.size = 1 := by rw [hu]; rfl
 rw [← hu] at hcv
 obtain ⟨S, hS⟩ : ∃ S : ByteArray, S = ⟨#[5]⟩ ++ u ++ s := ⟨_, rfl⟩
 have hSb : bl S = 5 :: UInt8.ofNat i :: bl s := by rw [hS, hu]; simp [bl, bsOf]
 have hSs : S.size ≤ 140737488351232 := by rw [← bl_length, hSb, List.length_cons, List.length_cons, bl_length]; omega
 have hk8 : IntKind.u8.wrap (i : Int) = (i : Int) := by rw [IntKind.wrap_u8']; omega
 have hl1 : ¬ 9223372036854775807 < 1 + u.size := by omega
 have hl2 : ¬ 9223372036854775807 < 1 + u.size + s.size := by omega
 have hM := Mid2_ok w1 S hSs
 have hE : placeSeed (bl s) i = mid (bl S) := by rw [hSb]; rfl
 rw [hE]
 have HM := lh hM
 have HW0 := lh hw0
 have HW1 := lh hw1
 have HCV := lh hcv
 have HS := lh hS
 have HB1 := lh hb1
 clear hM hw0 hw1 hcv hS hSb hSs hE hb0 hb1 hu
 go_enter Tryz.func84, Tryz.ntmps84
 go_wp2_with fail
 rw [← HW0.out, ← HW1.out, HCV.out]
 go_wp2_with fail
 rw [← HS.out]
 refine HM.out.mono ?_
 rintro e w2 ⟨rfl, hb⟩
 have HB2 := tbB HB1 hb
 clear hb
 go_wp2
 go_ret
 exact ⟨rfl, HB2.out⟩
theorem Digits2_ok (w : World) (s : ByteArray) (hs : s.size ≤ 140737488351232) : Calls Tryz.prog 120 #[.string s] w fun e w' => ∃ v, e = .returned v ∧ AccN w w' v (digits (bl s)) := by
 have hM := fun w => Mid2_ok w s hs
 unfold digits
 obtain ⟨D, hD⟩ := nXe (digM (bl s))
 rw [← hD]
 obtain ⟨Qf, hQf⟩ := nXe (lackOf D)
 obtain ⟨DG, hDG⟩ := nXe (digs4 Qf)
 rw [← hQf, ← hDG]
 have HQf := lh hQf
 have HDGf := lh hDG
 clear hQf hDG
 obtain ⟨M, hMe⟩ := nXe (mid (bl s))
 have hMl : M.length = 16 := by rw [hMe]; exact mid_length _
 have hDM : M.flatMap (fun y => digs4 y.toNat) = D := by rw [hD, hMe]; rfl
 have hDl : D.length = 64 := by rw [hD]; exact digM_length _
 have hD3 : ∀ d ∈ D, d ≤ 3 := by rw [hD]; exact digM_le _
 rw [← hMe] at hM
 obtain ⟨B, hB⟩ := nXe (bsOf M)
 have hBs : B.size = 16 := by rw [hB, size_bsOf, hMl]
 have hBb : bl B = M := by rw [hB, bl_bsOf]
 rw [← hB] at hM
 have HM := lh hM
 have HDM := lh hDM
 have HDl := lh hDl
 have HD3 := lh hD3
 have HBb := lh hBb
 have HMl := lh hMl
 have HA0 := lh (AccR.nil (f := inN) (e := 3) (size := 1) w)
 clear hM hD hMe hDM hDl hD3 hBb hMl hB
 go_enter Tryz.func120, Tryz.ntmps120
 go_wp2_with fail
 refine (HM.out w).mono ?_
 rintro e w1 ⟨rfl, hb⟩
 have HA1 := lh (HA0.out.below hb)
 clear hb
 go_wp2
 go_loopw [4, 5, 6] (fun x y i wr => ∃ (k q : Nat) (v : Value), v = x ∧ y = .int .i64 q ∧ i = .int .i64 k ∧ k ≤ 16 ∧ q ≤ 192 ∧ Hid (q = lackOf ((M.take k).flatMap fun y => digs4 y.toNat)) ∧ AccN w wr v ((M.take k).flatMap fun y => digs4 y.toNat))
  (fun _ _ i _ => 16 - (intOf i).toNat)
 case atStart => exact ⟨0, 0, _, rfl, rfl, rfl, by omega, by omega, lh rfl, HA1.out⟩
 case round =>
  obtain ⟨k, q, v, rfl, rfl, rfl, hk, hq, hQ, hA⟩ := hrel
  have HA := lh hA
  have HQ : Hid (q = lackOf ((M.take k).flatMap fun y => digs4 y.toNat)) := hQ
  have hlen : ((M.take k).flatMap fun y => digs4 y.toNat).length = 4 * k := by rw [len_flat, List.length_take, HMl.out, Nat.min_eq_left hk]
  have HLen := lh hlen
  have hqk : q ≤ 12 * k := by have := lackOf_le ((M.take k).flatMap fun y => digs4 y.toNat); rw [hlen, ← HQ.out] at this; omega
  clear hA hlen HA1 hQ
  by_cases hlt : k < 16
  ·skip
   have hkB : k < B.size := by omega
   obtain ⟨b, hb⟩ : ∃ b, B[k] = b := ⟨_, rfl⟩
   have hMk : M[k]? = some b := by
    rw [← HBb.out, List.getElem?_eq_getElem (by rw [bl_length]; exact hkB)]
    rw [← hb]
    rfl
   have hb8 := b.toNat_lt
   have HMk := lh hMk
   have hbn : (B[k].toNat) = b.toNat := by rw [hb]
   clear hMk hb
   obtain ⟨n0, hn0⟩ := nXe (b.toNat)
   obtain ⟨n1, hn1⟩ := nXe (n0 / 4)
   obtain ⟨n2, hn2⟩ := nXe (n1 / 4)
   obtain ⟨n3, hn3⟩ := nXe (n2 / 4)
   obtain ⟨d0, hd0⟩ := nXe (n0 % 4)
   obtain ⟨d1, hd1⟩ := nXe (n1 % 4)
   obtain ⟨d2, hd2⟩ := nXe (n2 % 4)
   obtain ⟨d3, hd3⟩ := nXe (n3 % 4)
   have hdg : digs4 (b.toNat) = [d0, d1, d2, d3] := by rw [← hn0]; unfold digs4; rw [hd0, hd1, hd2, hd3, hn3, hn2, hn1, Nat.div_div_eq_div_mul, Nat.div_div_eq_div_mul]
   have HDG := lh hdg
   have m0 : ((n0 : Nat) : Int).tmod 4 = ((d0 : Nat) : Int) := by rw [hd0]; rfl
   have m1 : ((n1 : Nat) : Int).tmod 4 = ((d1 : Nat) : Int) := by rw [hd1]; rfl
   have m2 : ((n2 : Nat) : Int).tmod 4 = ((d2 : Nat) : Int) := by rw [hd2]; rfl
   have m3 : ((n3 : Nat) : Int).tmod 4 = ((d3 : Nat) : Int) := by rw [hd3]; rfl
   have t0 : ((n0 : Nat) : Int).tdiv 4 = ((n1 : Nat) : Int) := by rw [hn1]; rfl
   have t1 : ((n1 : Nat) : Int).tdiv 4 = ((n2 : Nat) : Int) := by rw [hn2]; rfl
   have t2 : ((n2 : Nat) : Int).tdiv 4 = ((n3 : Nat) : Int) := by rw [hn3]; rfl
   obtain ⟨n4, hn4⟩ := nXe (n3 / 4)
   have t3 : ((n3 : Nat) : Int).tdiv 4 = ((n4 : Nat) : Int) := by rw [hn4]; rfl
   have b0 : d0 ≤ 3 := by omega
   have b1 : d1 ≤ 3 := by omega
   have b2 : d2 ≤ 3 := by omega
   have b3 : d3 ≤ 3 := by omega
   have e0 : n0 ≤ 255 := by omega
   have e1 : n1 ≤ 255 := by omega
   have e2 : n2 ≤ 255 := by omega
   have e3 : n3 ≤ 255 := by omega
   have e4 : n4 ≤ 255 := by omega
   rw [← hn0] at hbn
   have x0 : wrap64 ((n0 : Nat) : Int) = (n0 : Int) := by unfold wrap64; omega
   clear hn0 hn1 hn2 hn3 hn4 hd0 hd1 hd2 hd3 hdg hb8
   go_wp2_with fail
   refine wp_loop_rounds 5 ?_
   rw [rounds_succ]
   go_wp2_with (at_builtin; go_must (refine wpList_accR tyInts inF HA.out d0 rfl _ _ rfl rfl #[.int .i64 (d0 : Int)] rfl _ rfl (by first | rfl | simp) ?hl ?hb ?go))
   case hl => simp only [List.length_append, List.length_cons, List.length_nil, HLen.out]; unfold maxLen; omega
   case hb => simp only [List.length_append, List.length_cons, List.length_nil, HLen.out]; omega
   case go =>
   intro v2 w2 A
   have HB1 := lh A
   clear A
   go_wp2_with fail
   rw [rounds_succ]
   go_wp2_with (at_builtin; go_must (refine wpList_accR tyInts inF HB1.out d1 rfl _ _ rfl rfl #[.int .i64 (d1 : Int)] rfl _ rfl (by first | rfl | simp) ?hl ?hb ?go))
   case hl => simp only [List.length_append, List.length_cons, List.length_nil, HLen.out]; unfold maxLen; omega
   case hb => simp only [List.length_append, List.length_cons, List.length_nil, HLen.out]; omega
   case go =>
   intro v3 w3 A
   have HB2 := lh A
   clear A
   go_wp2_with fail
   rw [rounds_succ]
   go_wp2_with (at_builtin; go_must (refine wpList_accR tyInts inF HB2.out d2 rfl _ _ rfl rfl #[.int .i64 (d2 : Int)] rfl _ rfl (by first | rfl | simp) ?hl ?hb ?go))
   case hl => simp only [List.length_append, List.length_cons, List.length_nil, HLen.out]; unfold maxLen; omega
   case hb => simp only [List.length_append, List.length_cons, List.length_nil, HLen.out]; omega
   case go =>
   intro v4 w4 A
   have HB3 := lh A
   clear A
   go_wp2_with fail
   rw [rounds_succ]
   go_wp2_with (at_builtin; go_must (refine wpList_accR tyInts inF HB3.out d3 rfl _ _ rfl rfl #[.int .i64 (d3 : Int)] rfl _ rfl (by first | rfl | simp) ?hl ?hb ?go))
   case hl => simp only [List.length_append, List.length_cons, List.length_nil, HLen.out]; unfold maxLen; omega
   case hb => simp only [List.length_append, List.length_cons, List.length_nil, HLen.out]; omega
   case go =>
   intro v5 w5 A
   have HB4 := lh A
   clear A
   go_wp2_with fail
   rw [rounds_succ]
   go_wp2
   go_roundw
   case rel =>
    refine ⟨k + 1, q + (3 - d0) + (3 - d1) + (3 - d2) + (3 - d3), _, rfl, by go_num, by go_num, by omega, by omega, lh ?_, ?_⟩
    ·rw [flat_take_succ HMk.out, HDG.out, HQ.out]
     simp [lackOf]
     omega
    ·rw [flat_take_succ HMk.out, HDG.out]
     have h := HB4.out
     exact h
   case measure => simp [intOf]; omega
  ·skip
   obtain rfl : k = 16 := by omega
   have hA := HA.out
   have hQ := HQ.out
   rw [List.take_of_length_le (by rw [HMl.out]; omega), HDM.out] at hA hQ
   have HA1 := lh hA
   have HQ1 := lh hQ
   clear hA hQ HA HQ HLen
   obtain ⟨n0, hn0⟩ := nXe (q)
   obtain ⟨n1, hn1⟩ := nXe (n0 / 4)
   obtain ⟨n2, hn2⟩ := nXe (n1 / 4)
   obtain ⟨n3, hn3⟩ := nXe (n2 / 4)
   obtain ⟨d0, hd0⟩ := nXe (n0 % 4)
   obtain ⟨d1, hd1⟩ := nXe (n1 % 4)
   obtain ⟨d2, hd2⟩ := nXe (n2 % 4)
   obtain ⟨d3, hd3⟩ := nXe (n3 % 4)
   have hdg : digs4 (q) = [d0, d1, d2, d3] := by rw [← hn0]; unfold digs4; rw [hd0, hd1, hd2, hd3, hn3, hn2, hn1, Nat.div_div_eq_div_mul, Nat.div_div_eq_div_mul]
   have HDG := lh hdg
   have m0 : ((n0 : Nat) : Int).tmod 4 = ((d0 : Nat) : Int) := by rw [hd0]; rfl
   have m1 : ((n1 : Nat) : Int).tmod 4 = ((d1 : Nat) : Int) := by rw [hd1]; rfl
   have m2 : ((n2 : Nat) : Int).tmod 4 = ((d2 : Nat) : Int) := by rw [hd2]; rfl
   have m3 : ((n3 : Nat) : Int).tmod 4 = ((d3 : Nat) : Int) := by rw [hd3]; rfl
   have t0 : ((n0 : Nat) : Int).tdiv 4 = ((n1 : Nat) : Int) := by rw [hn1]; rfl
   have t1 : ((n1 : Nat) : Int).tdiv 4 = ((n2 : Nat) : Int) := by rw [hn2]; rfl
   have t2 : ((n2 : Nat) : Int).tdiv 4 = ((n3 : Nat) : Int) := by rw [hn3]; rfl
   obtain ⟨n4, hn4⟩ := nXe (n3 / 4)
   have t3 : ((n3 : Nat) : Int).tdiv 4 = ((n4 : Nat) : Int) := by rw [hn4]; rfl
   have b0 : d0 ≤ 3 := by omega
   have b1 : d1 ≤ 3 := by omega
   have b2 : d2 ≤ 3 := by omega
   have b3 : d3 ≤ 3 := by omega
   have e0 : n0 ≤ 255 := by omega
   have e1 : n1 ≤ 255 := by omega
   have e2 : n2 ≤ 255 := by omega
   have e3 : n3 ≤ 255 := by omega
   have e4 : n4 ≤ 255 := by omega
   subst hn0
   clear hn1 hn2 hn3 hn4 hd0 hd1 hd2 hd3 hdg
   go_wp2_with fail
   refine wp_loop_rounds 5 ?_
   rw [rounds_succ]
   go_wp2_with (at_builtin; go_must (refine wpList_accR tyInts inF HA1.out d0 rfl _ _ rfl rfl #[.int .i64 (d0 : Int)] rfl _ rfl (by first | rfl | simp) ?hl ?hb ?go))
   case hl => simp only [List.length_append, List.length_cons, List.length_nil, HDl.out]; unfold maxLen; omega
   case hb => simp only [List.length_append, List.length_cons, List.length_nil, HDl.out]; omega
   case go =>
   intro v2 w2 A
   have HB1 := lh A
   clear A
   go_wp2_with fail
   rw [rounds_succ]
   go_wp2_with (at_builtin; go_must (refine wpList_accR tyInts inF HB1.out d1 rfl _ _ rfl rfl #[.int .i64 (d1 : Int)] rfl _ rfl (by first | rfl | simp) ?hl ?hb ?go))
   case hl => simp only [List.length_append, List.length_cons, List.length_nil, HDl.out]; unfold maxLen; omega
   case hb => simp only [List.length_append, List.length_cons, List.length_nil, HDl.out]; omega
   case go =>
   intro v3 w3 A
   have HB2 := lh A
   clear A
   go_wp2_with fail
   rw [rounds_succ]
   go_wp2_with (at_builtin; go_must (refine wpList_accR tyInts inF HB2.out d2 rfl _ _ rfl rfl #[.int .i64 (d2 : Int)] rfl _ rfl (by first | rfl | simp) ?hl ?hb ?go))
   case hl => simp only [List.length_append, List.length_cons, List.length_nil, HDl.out]; unfold maxLen; omega
   case hb => simp only [List.length_append, List.length_cons, List.length_nil, HDl.out]; omega
   case go =>
   intro v4 w4 A
   have HB3 := lh A
   clear A
   go_wp2_with fail
   rw [rounds_succ]
   go_wp2_with (at_builtin; go_must (refine wpList_accR tyInts inF HB3.out d3 rfl _ _ rfl rfl #[.int .i64 (d3 : Int)] rfl _ rfl (by first | rfl | simp) ?hl ?hb ?go))
   case hl => simp only [List.length_append, List.length_cons, List.length_nil, HDl.out]; unfold maxLen; omega
   case hb => simp only [List.length_append, List.length_cons, List.length_nil, HDl.out]; omega
   case go =>
   intro v5 w5 A
   have HB4 := lh A
   clear A
   go_wp2_with fail
   rw [rounds_succ]
   go_wp2
   go_ret
   refine ⟨_, rfl, ?_⟩
   have h := HB4.out
   rw [HDGf.out, HQf.out, ← HQ1.out, HDG.out]
   exact h
end Go.Proofs.YtkcikadgnnjjjaaGreatDoor.RkA
namespace Go.Proofs.YtkcikadgnnjjjaaGreatDoor.RkB
open Go Go.RowKit Go.Shelf OctP OctG RowsX Lift ShaS KeyS ShaA ShaB Steps KeyA KeyB TreeA WireT RkA
attribute [-go_sem] Builtin.append_
theorem cat_bl (X Y : ByteArray) : bl (X ++ Y) = bl X ++ bl Y := bl_append X Y
theorem Public2_ok (w : World) (s : ByteArray) (hs : s.size ≤ 1000) : Calls Tryz.prog 86 #[.string s] w (RB (.agg (byV (pub (bl s))).toArray) w) := by
 obtain ⟨Z, hZ⟩ := nXe (zeroH.A)
 have HLIT : Hid (zq0 Z) := lh (by rw [hZ]; unfold zq0; kernel_rfl)
 have HZN : Hid (Z.size = 32) := lh (by rw [hZ]; exact H32.size _)
 have HZS : Hid ((Tryz.prog.info? 25).map (·.size) = some Z.size) := lh (by rw [hZ]; exact H32.info _)
 have HZO : Hid (Z.all (·.oneCell') = true) := lh (by rw [hZ]; exact H32.one _)
 obtain ⟨w0, hw0⟩ := nXe (w.alloc (.cells Z 25))
 have hb0 : Below w.heap.size w w0 := by rw [hw0]; exact (Below.refl _ w).alloc (Nat.le_refl _) _
 have HX0 := lh (show w0.heap[w.heap.size]? = some (.cells Z 25 (0, 0)) by rw [hw0]; exact heap_new _ _)
 have HB0 := lh hb0
 have HW0 := lh hw0
 obtain ⟨RES, hRES⟩ := nXe (pub (bl s))
 have hRl : RES.length = 32 := by rw [hRES]; exact sum_length _
 have HRES := lh hRES
 rw [← hRES]
 obtain ⟨E, hE⟩ : ∃ E : Array Value, E = (byV RES).toArray := ⟨_, rfl⟩
 have hEn : E.size = 32 := by rw [hE]; simp [byV_length, hRl]
 have HES := lh (show (Tryz.prog.info? 25).map (·.size) = some E.size by rw [hEn]; kernel_rfl)
 have HEN := lh (show 32 = E.size by rw [hEn])
 have HEO := lh (show E.all (·.oneCell') = true by rw [hE]; simp [byV, Value.oneCell'])
 rw [← hE]
 have HEe := lh hE
 clear hw0 hb0 hZ hRES hE hEn
 go_enter Tryz.func86, Tryz.ntmps86
 go_wp2
 rw [HLIT.out, ← HW0.out]
 go_loopw [3, 4] (fun x i wr => ∃ (k : Nat) (X : ByteArray), x = .string X ∧ i = .int .i64 k ∧ k ≤ 68 ∧ X.size = 16 * k + 1 ∧ Hid (bl X = pubT (bl s) k) ∧ wr.heap[w.heap.size]? = some (.cells Z 25 (0, 0)) ∧ Below w.heap.size w wr)
  (fun _ i _ => 68 - (intOf i).toNat)
 case atStart => exact ⟨0, _, rfl, rfl, by omega, rfl, lh rfl, HX0.out, HB0.out⟩
 case round =>
  obtain ⟨k, X, rfl, rfl, hk, hXs, hX, hx, hb⟩ := hrel
  have HXr := lh hx
  have HBr := lh hb
  have HXl : Hid (bl X = pubT (bl s) k) := hX
  clear hx hb hX
  by_cases hlt : k < 68
  ·skip
   obtain ⟨C, hC⟩ := nXe (bsOf (KeyS.start (bl s) k))
   have hCs : C.size = 16 := by rw [hC, size_bsOf, start_length]
   have hCb : bl C = KeyS.start (bl s) k := by rw [hC, bl_bsOf]
   have hS := fun w => start2_ok w s k (by omega) hs
   rw [← hC] at hS
   obtain ⟨Y, hY⟩ := nXe (bsOf (on 3 (bl C)))
   have hYs : Y.size = 16 := by rw [hY, size_bsOf]; exact on_length (by rw [hCb]; exact start_length _ _) _
   have hYb : bl Y = on 3 (KeyS.start (bl s) k) := by rw [hY, bl_bsOf, hCb]
   have hO := fun w => on2_ok w C 3 hCs (by omega)
   rw [← hY] at hO
   have HS := lh hS
   have HO := lh hO
   have HYb := lh hYb
   have hlen : ¬ 9223372036854775807 < X.size + Y.size := by omega
   clear hS hO hC hCb hY hYb
   go_wp2_with fail
   refine (HS.out wr).mono ?_
   rintro e w1 ⟨rfl, hb⟩
   have HB1 := tbB HBr hb
   have HX1 := kpB hb HXr
   clear hb
   go_wp2_with fail
   refine (HO.out w1).mono ?_
   rintro e w2 ⟨rfl, hb⟩
   have HB2 := tbB HB1 hb
   have HX2 := kpB hb HX1
   clear hb
   go_wp2
   go_roundw
   case rel => exact ⟨k + 1, _, rfl, by go_num, by omega, by rw [ByteArray.size_append]; omega, lh (by rw [cat_bl, HXl.out, HYb.out, pubT_succ]), HX2.out, HB2.out⟩
   case measure => simp [intOf]; omega
  ·skip
   obtain rfl : k = 68 := by omega
   have HXF := lh (show ShaS.sum (bl X) = RES by rw [HXl.out, HRES.out]; rfl)
   go_wp2_with fail
   refine (EntZ.Sum2_ok _ X (by omega)).mono ?_
   rintro e w1 ⟨rfl, hb⟩
   rw [HXF.out, ← HEe.out]
   have HB1 := tbB HBr hb
   have HX1 := kpB hb HXr
   clear hb
   go_wp2_with (first | (refine wpList_store_rowA rfl _ _ _ rfl w.heap.size E rfl rfl _ _ HX1.out HES.out (by rw [HZN.out]; exact HEN.out) HEO.out ?_) | fail)
   intro wf hwf
   go_wp2
   refine bodyPost_ret (v := .agg E) (results_cell_row rfl _ _ w.heap.size _ E (0, 0) _ rfl (by rw [hwf.out]; exact setRow_at HX1.out) Tryz.underlying25 rfl HES.out) rfl ⟨rfl, by rw [hwf.out]; exact below_row HB1.out (Nat.le_refl _) _⟩
theorem Sign2_ok (w : World) (s text : ByteArray) (hs : s.size ≤ 1000) (ht : text.size ≤ 140737488351232) : Calls Tryz.prog 83 #[.string s, .string text] w (RB (.string (bsOf (KeyS.sign (bl s) (bl text)))) w) := by
 have hD := fun w => Digits2_ok w text (by omega)
 obtain ⟨D, hDe⟩ := nXe (digits (bl text))
 rw [← hDe] at hD
 have hDl : D.length = 68 := by rw [hDe]; exact digits_length _
 have hD3 : ∀ d ∈ D, d ≤ 3 := by rw [hDe]; exact digits_le _
 have HD := lh hD
 have HDl := lh hDl
 have HD3 := lh hD3
 have HDe := lh hDe
 clear hD hDl hD3 hDe
 obtain ⟨RES, hRES⟩ := nXe (bsOf (KeyS.sign (bl s) (bl text)))
 have HRES := lh hRES
 rw [← hRES]
 clear hRES
 go_enter Tryz.func83, Tryz.ntmps83
 go_wp2_with fail
 refine (HD.out w).mono ?_
 rintro e w1 ⟨dv, rfl, hdv⟩
 have hsl : SlN w1 dv D := hdv.sl
 obtain ⟨db, do_, dcap, rfl, hdlt, hdc⟩ := hsl.cells (by rw [HDl.out]; omega)
 have hb := hdv.bel
 rw [HDl.out]
 have HDC := lh hdc
 clear hdv hsl hdc
 have HB0 := lh hb
 clear hb
 go_wp2
 go_loopw [5, 11] (fun x i wr => ∃ (k : Nat) (X : ByteArray), x = .string X ∧ i = .int .i64 k ∧ k ≤ 68 ∧ X.size = 16 * k ∧ Hid (bl X = signN (bl s) D k) ∧ Below w1.heap.size w1 wr)
  (fun _ i _ => 68 - (intOf i).toNat)
 case atStart => exact ⟨0, _, rfl, rfl, by omega, rfl, lh rfl, Below.refl _ _⟩
 case round =>
  obtain ⟨k, X, rfl, rfl, hk, hXs, hX, hb⟩ := hrel
  have HBr := lh hb
  have HXl : Hid (bl X = signN (bl s) D k) := hX
  clear hb hX
  by_cases hlt : k < 68
  ·skip
   obtain ⟨d, hd⟩ : ∃ d, D[k]? = some d := ⟨_, List.getElem?_eq_getElem (by rw [HDl.out]; exact hlt)⟩
   have hd3 := HD3.out d (List.mem_of_getElem? hd)
   have hcd : wr.cell? ⟨db, do_ + k, none⟩ = some (.int .i64 (d : Int)) := (HBr.out.cell (p := ⟨db, do_ + k, none⟩) hdlt).trans (HDC.out k d hd)
   have hgd : D.getD k 0 = d := by rw [List.getD_eq_getElem?_getD, hd]; rfl
   obtain ⟨C, hC⟩ := nXe (bsOf (KeyS.start (bl s) k))
   have hCs : C.size = 16 := by rw [hC, size_bsOf, start_length]
   have hCb : bl C = KeyS.start (bl s) k := by rw [hC, bl_bsOf]
   have hS := fun w => start2_ok w s k (by omega) hs
   rw [← hC] at hS
   obtain ⟨Y, hY⟩ := nXe (bsOf (on d (bl C)))
   have hYs : Y.size = 16 := by rw [hY, size_bsOf]; exact on_length (by rw [hCb]; exact start_length _ _) _
   have hYb : bl Y = on (D.getD k 0) (KeyS.start (bl s) k) := by rw [hY, bl_bsOf, hCb, hgd]
   have hO := fun w => on2_ok w C d hCs hd3
   rw [← hY] at hO
   have HS := lh hS
   have HO := lh hO
   have HYb := lh hYb
   have hlen : ¬ 9223372036854775807 < X.size + Y.size := by omega
   clear hS hO hC hCb hY hYb hd hgd
   go_wp2_with fail
   refine (HS.out wr).mono ?_
   rintro e w2 ⟨rfl, hb⟩
   have HB1 := tbB HBr hb
   clear hb hcd
   go_wp2_with fail
   refine (HO.out w2).mono ?_
   rintro e w3 ⟨rfl, hb⟩
   have HB2 := tbB HB1 hb
   clear hb
   go_wp2
   go_roundw
   case rel => exact ⟨k + 1, _, rfl, by go_num, by omega, by rw [ByteArray.size_append]; omega, lh (by rw [cat_bl, HXl.out, HYb.out, signN_succ]), HB2.out⟩
   case measure => simp [intOf]; omega
  ·skip
   obtain rfl : k = 68 := by omega
   have hXe : X = RES := by rw [HRES.out]; unfold KeyS.sign; rw [← HDe.out, ← HXl.out, bsOf_bl]
   subst hXe
   go_wp2
   go_ret
   exact ⟨rfl, HB0.out.trans (HBr.out.mono HB0.out.size)⟩
theorem Recover2_ok (w : World) (text sig : ByteArray) (ht : text.size ≤ 140737488351232) (hs : sig.size = 1088) : Calls Tryz.prog 110 #[.string text, .string sig] w (RB (.tuple #[.agg (byV (recover (bl text) (bl sig))).toArray, .int .i64 0]) w) := by
 have hD := fun w => Digits2_ok w text (by omega)
 obtain ⟨D, hDe⟩ := nXe (digits (bl text))
 rw [← hDe] at hD
 have hDl : D.length = 68 := by rw [hDe]; exact digits_length _
 have hD3 : ∀ d ∈ D, d ≤ 3 := by rw [hDe]; exact digits_le _
 have HD := lh hD
 have HDl := lh hDl
 have HD3 := lh hD3
 have HDe := lh hDe
 clear hD hDl hD3 hDe
 obtain ⟨Z, hZ⟩ := nXe (zeroH.A)
 have HLIT : Hid (zq0 Z) := lh (by rw [hZ]; unfold zq0; kernel_rfl)
 have HZN : Hid (Z.size = 32) := lh (by rw [hZ]; exact H32.size _)
 have HZS : Hid ((Tryz.prog.info? 25).map (·.size) = some Z.size) := lh (by rw [hZ]; exact H32.info _)
 have HZO : Hid (Z.all (·.oneCell') = true) := lh (by rw [hZ]; exact H32.one _)
 obtain ⟨w0, hw0⟩ := nXe (w.alloc (.cells Z 25))
 have hb0 : Below w.heap.size w w0 := by rw [hw0]; exact (Below.refl _ w).alloc (Nat.le_refl _) _
 have HX0 := lh (show w0.heap[w.heap.size]? = some (.cells Z 25 (0, 0)) by rw [hw0]; exact heap_new _ _)
 have HB0 := lh hb0
 have HW0 := lh hw0
 obtain ⟨RES, hRES⟩ := nXe (recover (bl text) (bl sig))
 have hRl : RES.length = 32 := by rw [hRES]; exact sum_length _
 have HRES := lh hRES
 rw [← hRES]
 obtain ⟨E, hE⟩ : ∃ E : Array Value, E = (byV RES).toArray := ⟨_, rfl⟩
 have hEn : E.size = 32 := by rw [hE]; simp [byV_length, hRl]
 have HES := lh (show (Tryz.prog.info? 25).map (·.size) = some E.size by rw [hEn]; kernel_rfl)
 have HEN := lh (show 32 = E.size by rw [hEn])
 have HEO := lh (show E.all (·.oneCell') = true by rw [hE]; simp [byV, Value.oneCell'])
 rw [← hE]
 have HEe := lh hE
 clear hw0 hb0 hZ hRES hE hEn
 go_enter Tryz.func110, Tryz.ntmps110
 go_wp2_with fail
 rw [HLIT.out, ← HW0.out]
 refine (HD.out w0).mono ?_
 rintro e w1 ⟨dv, rfl, hdv⟩
 have hsl : SlN w1 dv D := hdv.sl
 obtain ⟨db, do_, dcap, rfl, hdlt, hdc⟩ := hsl.cells (by rw [HDl.out]; omega)
 have hb := hdv.bel
 rw [HDl.out]
 have HDC := lh hdc
 clear hdv hsl hdc
 have HX1 := kpB hb HX0
 have HB1 := tbB HB0 hb
 clear hb
 go_wp2
 go_loopw [6, 16] (fun x i wr => ∃ (k : Nat) (X : ByteArray), x = .string X ∧ i = .int .i64 k ∧ k ≤ 68 ∧ X.size = 16 * k + 1 ∧ Hid (bl X = recT (bl sig) D k) ∧ Below w1.heap.size w1 wr)
  (fun _ i _ => 68 - (intOf i).toNat)
 case atStart => exact ⟨0, _, rfl, rfl, by omega, rfl, lh rfl, Below.refl _ _⟩
 case round =>
  obtain ⟨k, X, rfl, rfl, hk, hXs, hX, hb⟩ := hrel
  have HBq := lh hb
  have HXl : Hid (bl X = recT (bl sig) D k) := hX
  clear hb hX
  by_cases hlt : k < 68
  ·skip
   obtain ⟨d, hd⟩ : ∃ d, D[k]? = some d := ⟨_, List.getElem?_eq_getElem (by rw [HDl.out]; exact hlt)⟩
   have hd3 := HD3.out d (List.mem_of_getElem? hd)
   have hcd : wr.cell? ⟨db, do_ + k, none⟩ = some (.int .i64 (d : Int)) := (HBq.out.cell (p := ⟨db, do_ + k, none⟩) hdlt).trans (HDC.out k d hd)
   have hgd : D.getD k 0 = d := by rw [List.getD_eq_getElem?_getD, hd]; rfl
   obtain ⟨C, hC⟩ := nXe (sig.extract (16 * k) (16 * (k + 1)))
   have hCs : C.size = 16 := by rw [hC, ByteArray.size_extract]; omega
   have hCb : bl C = ((bl sig).drop (16 * k)).take 16 := by rw [hC, bl_extract, show 16 * (k + 1) - 16 * k = 16 by omega]
   obtain ⟨m, hm⟩ := nXe (3 - d)
   have hmi : (3 : Int) - (d : Int) = (m : Int) := by omega
   have hm3 : m ≤ 3 := by omega
   obtain ⟨Y, hY⟩ := nXe (bsOf (on m (bl C)))
   have hYs : Y.size = 16 := by rw [hY, size_bsOf]; exact on_length (by rw [bl_length, hCs]) _
   have hYb : bl Y = on (3 - D.getD k 0) (((bl sig).drop (16 * k)).take 16) := by rw [hY, bl_bsOf, hCb, hgd, hm]
   have hO := fun w => on2_ok w C m hCs hm3
   rw [← hY] at hO
   have HO := lh hO
   have HYb := lh hYb
   have hlen : ¬ 9223372036854775807 < X.size + Y.size := by omega
   have hXn : X.size ≤ 2000 := by omega
   have HXs := lh hXs
   clear hXs
   have HC := lh hC
   clear hO hC hCb hY hYb hd hgd hm
   go_wp2_with fail
   rw [← HC.out]
   refine (HO.out wr).mono ?_
   rintro e w2 ⟨rfl, hb⟩
   have HB2 := tbB HBq hb
   clear hb hcd
   go_wp2
   go_roundw
   case rel => exact ⟨k + 1, _, rfl, by go_num, by omega, by rw [ByteArray.size_append, HXs.out, hYs]; omega, lh (by rw [cat_bl, HXl.out, HYb.out, recT_succ]), HB2.out⟩
   case measure => simp [intOf]; omega
  ·skip
   obtain rfl : k = 68 := by omega
   have HXF := lh (show ShaS.sum (bl X) = RES by rw [HXl.out, HRES.out, HDe.out]; rfl)
   have HBr := lh (HB1.out.trans (HBq.out.mono HB1.out.size))
   have HXr := lh ((HBq.out.block _ (lt_row HX1.out)).trans HX1.out)
   go_wp2_with fail
   refine (EntZ.Sum2_ok _ X (by omega)).mono ?_
   rintro e w9 ⟨rfl, hb⟩
   rw [HXF.out, ← HEe.out]
   have HC1 := tbB HBr hb
   have HY1 := kpB hb HXr
   clear hb
   go_wp2_with (first | (refine wpList_store_rowA rfl _ _ _ rfl w.heap.size E rfl rfl _ _ HY1.out HES.out (by rw [HZN.out]; exact HEN.out) HEO.out ?_) | fail)
   intro wf hwf
   go_wp2
   refine bodyPost_ret (v := .tuple #[.agg E, .int .i64 0]) (WireT.results_cell_slot rfl _ _ w.heap.size 25 E (0, 0) _ rfl (by rw [hwf.out]; exact setRow_at HY1.out) Tryz.underlying25 rfl HES.out rfl) rfl ⟨rfl, by rw [hwf.out]; exact below_row HC1.out (Nat.le_refl _) _⟩
end Go.Proofs.YtkcikadgnnjjjaaGreatDoor.RkB
namespace Go.Proofs.YtkcikadgnnjjjaaGreatDoor.KeyT
open ShaS KeyS
theorem up_app : ∀ (n : Nat) (A B : Hs), A.length = 2 * n → up (A ++ B) = up A ++ up B
 | 0, A, B, h => by
  match A, h with
  | [], _ => rfl
 | n + 1, A, B, h => by
  match A, h with
  | a :: b :: r, h =>
   have hr : r.length = 2 * n := by simp only [List.length_cons] at h; omega
   show above a b :: up (r ++ B) = above a b :: (up r ++ up B)
   rw [up_app n r B hr]
theorem root_split : ∀ (h : Nat) (A B : Hs), A.length = 2 ^ h → B.length = 2 ^ h → root (h + 1) (A ++ B) = above (root h A) (root h B)
 | 0, A, B, hA, hB => by
  match A, B, hA, hB with
  | [a], [b], _, _ => rfl
 | h + 1, A, B, hA, hB => by
  have h1 : A.length = 2 * 2 ^ h := by rw [hA, Nat.pow_succ, Nat.mul_comm]
  have h2 : B.length = 2 * 2 ^ h := by rw [hB, Nat.pow_succ, Nat.mul_comm]
  show root (h + 1) (up (A ++ B)) = above (root h (up A)) (root h (up B))
  rw [up_app _ A B h1]
  exact root_split h (up A) (up B) (up_length _ _ h1) (up_length _ _ h2)
theorem sib_lt {i m : Nat} (h : i < 2 * m) : sib i < 2 * m := by
 unfold sib
 split <;> omega
theorem path_left : ∀ (h : Nat) (A B : Hs) (i : Nat), A.length = 2 ^ h → B.length = 2 ^ h → i < 2 ^ h → path (h + 1) (A ++ B) i = path h A i ++ [root h B]
 | 0, A, B, i, hA, hB, hi => by
  match A, B, hA, hB with
  | [a], [b], _, _ =>
   obtain rfl : i = 0 := by omega
   rfl
 | h + 1, A, B, i, hA, hB, hi => by
  have h1 : A.length = 2 * 2 ^ h := by rw [hA, Nat.pow_succ, Nat.mul_comm]
  have h2 : B.length = 2 * 2 ^ h := by rw [hB, Nat.pow_succ, Nat.mul_comm]
  have hs := sib_lt (m := 2 ^ h) (show i < 2 * 2 ^ h by rw [Nat.pow_succ] at hi; omega)
  show (A ++ B).getD (sib i) [] :: path (h + 1) (up (A ++ B)) (i / 2) = (A.getD (sib i) [] :: path h (up A) (i / 2)) ++ [root h (up B)]
  rw [up_app _ A B h1, path_left h (up A) (up B) (i / 2) (up_length _ _ h1) (up_length _ _ h2) (by rw [Nat.pow_succ] at hi; omega)]
  rw [List.getD_eq_getElem?_getD, List.getElem?_append_left (by omega), ← List.getD_eq_getElem?_getD]
  rfl
theorem path_right : ∀ (h : Nat) (A B : Hs) (i : Nat), A.length = 2 ^ h → B.length = 2 ^ h → i < 2 ^ h → path (h + 1) (A ++ B) (2 ^ h + i) = path h B i ++ [root h A]
 | 0, A, B, i, hA, hB, hi => by
  match A, B, hA, hB with
  | [a], [b], _, _ =>
   obtain rfl : i = 0 := by omega
   rfl
 | h + 1, A, B, i, hA, hB, hi => by
  have h1 : A.length = 2 * 2 ^ h := by rw [hA, Nat.pow_succ, Nat.mul_comm]
  have h2 : B.length = 2 * 2 ^ h := by rw [hB, Nat.pow_succ, Nat.mul_comm]
  obtain ⟨m, hm⟩ := nXe (2 ^ h)
  have hpw : 2 ^ (h + 1) = 2 * m := by rw [hm, Nat.pow_succ, Nat.mul_comm]
  have hs : sib (2 * m + i) = 2 * m + sib i := by
   unfold sib
   have e : (2 * m + i) % 2 = i % 2 := by omega
   rw [e]
   split <;> omega
  have hd : (2 * m + i) / 2 = m + i / 2 := by omega
  show (A ++ B).getD (sib (2 ^ (h + 1) + i)) [] :: path (h + 1) (up (A ++ B)) ((2 ^ (h + 1) + i) / 2) = (B.getD (sib i) [] :: path h (up B) (i / 2)) ++ [root h (up A)]
  rw [hpw, hs, hd, up_app _ A B h1, hm, path_right h (up A) (up B) (i / 2) (up_length _ _ h1) (up_length _ _ h2) (by omega), ← hm]
  rw [List.getD_eq_getElem?_getD, List.getElem?_append_right (by omega), ← List.getD_eq_getElem?_getD, show 2 * m + sib i - A.length = sib i by omega]
  rfl
end Go.Proofs.YtkcikadgnnjjjaaGreatDoor.KeyT
