/-
  WHAT IS PROVED: contracts and plain laws. Condition: each names its own.
-/
import Derived.Test.YtceiajepcokacaaGreatDoorS0
import Derived.Test.YtceiajepcokacaaGreatDoorZH32
set_option linter.unusedVariables false
set_option linter.unusedSimpArgs false
set_option maxRecDepth 100000
set_option maxHeartbeats 4000000
namespace Go.Proofs.YtceiajepcokacaaGreatDoor
open Go.Proofs.Tryz
namespace RkV
open Go Go.RowKit Go.Shelf OctP OctG RowsX Lift ShaS KeyS ShaA ShaB Steps KeyA KeyB KeyG KeyH KeyJ TreeA TreeB TreeE TreeF TreeG WireT RkA RkC RkF
attribute [-go_sem] Builtin.append_
attribute [-go_sem] run_equalIn_agg
theorem Jh (w : World) (rt : H32) (n : Nat) (text sig : ByteArray) (hn : n ≤ 7) (ht : text.size ≤ 140737488351232) (hs : sig.size = 1089 + 32 * n) (hb2 : ((bl sig).headD 0).toNat < 2 ^ n) :
 Calls Tryz.prog 45 #[.agg rt.A, .int .i64 n, .string text, .string sig] w (RB (.int .i64 (if FR n (bl text) (bl sig) = rt.l then 0 else 9)) w) := by
 have h0 : 0 < sig.size := by omega
 obtain ⟨b, hb⟩ : ∃ b, sig[0] = b := ⟨_, rfl⟩
 have hhd : (bl sig).headD 0 = b := by
  have := Dv sig 0 h0
  rw [List.drop_zero] at this
  rw [this, ← hb]
  rfl
 unfold FR
 rw [hhd] at hb2 ⊢
 have hP := fun w => RkP.Jz w n sig hn hs b h0 hb hb2
 obtain ⟨X, hX⟩ := nXe (sig.extract 1 1089)
 have hXb : bl X = ((bl sig).drop 1).take 1088 := by rw [hX, Aj]
 have hXs : X.size = 1088 := by rw [← AP, hXb, List.length_take, List.length_drop, AP]; omega
 obtain ⟨Y, hY⟩ := nXe (sig.extract 1089 sig.size)
 have hYb : bl Y = (bl sig).drop 1089 := by rw [hY, Aj, List.take_of_length_le (by rw [List.length_drop, AP]; omega)]
 have hYs : (bl Y).length = 32 * n := by rw [hYb, List.length_drop, AP]; omega
 rw [← hXb, ← hYb, ← partsH_l n (bl Y) hYs]
 obtain ⟨L, hL⟩ := nXe (Cw n (bl Y) hYs)
 have hLl : L.length = n := by rw [hL]; exact Ep _ _ _
 have hR := fun w => RkB.Jj w text X ht hXs
 obtain ⟨lf, hlf⟩ := nXe (Et (bl text) (bl X))
 obtain ⟨at', hat⟩ : ∃ a, a = Cs lf b.toNat L := ⟨_, rfl⟩
 have hcl : climb (recover (bl text) (bl X)) b.toNat (L.map H32.l) = at'.l := by rw [hat, climbH_l, hlf, recoverH_l]
 rw [← hL, hcl]
 obtain ⟨C, hC⟩ := nXe (lf.A)
 have hRC : (byV (recover (bl text) (bl X))).toArray = C := by rw [hC, hlf, recoverH_A]
 rw [hRC] at hR
 obtain ⟨E, hE⟩ := nXe (at'.A)
 obtain ⟨p, hp⟩ := nXe (rt.A)
 obtain ⟨Z, hZ⟩ := nXe (CQ.A)
 have HLIT : Hid (zq0 Z) := lh (by rw [hZ]; unfold zq0; kernel_rfl)
 have HCN : Hid (32 = C.size) := lh (by rw [hC]; exact (H32.size _).symm)
 have HZC : Hid (Z.size = C.size) := lh (by rw [hZ, hC, H32.size, H32.size])
 have HZE : Hid (Z.size = E.size) := lh (by rw [hZ, hE, H32.size, H32.size])
 have HCS : Hid ((Tryz.prog.info? 44).map (·.size) = some C.size) := lh (by rw [hC]; exact H32.info _)
 have HCO : Hid (C.all (·.oneCell') = true) := lh (by rw [hC]; exact H32.one _)
 have HES : Hid ((Tryz.prog.info? 44).map (·.size) = some E.size) := lh (by rw [hE]; exact H32.info _)
 have HEO : Hid (E.all (·.oneCell') = true) := lh (by rw [hE]; exact H32.one _)
 have HPS : Hid ((Tryz.prog.info? 44).map (·.size) = some p.size) := lh (by rw [hp]; exact H32.info _)
 have hCl : ∀ w v, Sl w v 32 L.length (L.flatMap H32.cs) → Calls Tryz.prog 74 #[.agg C, .int .i64 (b.toNat : Int), v] w (RB (.tuple #[.agg E, .int .i64 0]) w) := fun w v hsl => by
  rw [hC, hE, hat]
  exact RkW.KT w lf b.toNat v L hsl (by omega) (by rw [hLl]; exact hb2)
 obtain ⟨q, hq⟩ := nXe (decide (at'.l = rt.l))
 have heq : ∀ w, (Op.equalIn 10000 44 (.agg E) (.agg p)).run Tryz.prog w = .ok q w := fun w => by rw [hE, hp, eqH, hEq_dec, hq]
 have hG := EqHash.D8
 have hpost : (if at'.l = rt.l then (0 : Int) else 9) = (if q then 0 else 9) := by rw [hq]; by_cases h : at'.l = rt.l <;> simp [h]
 obtain ⟨res, hres⟩ : ∃ r : Int, r = (if q then 0 else 9) := ⟨_, rfl⟩
 rw [hpost, ← hp, ← hres]
 obtain ⟨HRes, HEQ, HGG, HP, HR, HCl⟩ := l6h hres heq hG hP hR hCl
 have hx1 : (1089 : Int) ≤ (sig.size : Int) := by omega
 obtain ⟨HXe, HYe⟩ := l2h hX hY
 obtain ⟨w0, hw0⟩ := nXe (w.alloc (.cells p 44))
 have HB0 := lh (show Below w.heap.size w w0 by rw [hw0]; exact bAx)
 have HX0 := lh (show w0.heap[w.heap.size]? = some (.cells p 44 (0, 0)) by rw [hw0]; exact AL _ _)
 have HW0 := lh hw0
 have hs1 : 1089 ≤ sig.size := by omega
 obtain ⟨HLe, HYl, HLl⟩ := l3h hL hYs hLl
 clear heq hG hP hR hCl hX hY hw0 hXb hYb hL hLl hlf hat hcl hC hRC hE hp hhd hb hpost hres hb2 hq hs hXs
 have HZe := lh hZ
 have HZN : Hid (Z.size = 32) := lh (by rw [hZ]; exact H32.size _)
 clear hZ
 go_enter func45, ntmps45
 go_wp2_with fail
 rw [← HW0.out]
 refine (HP.out w0).mono ?_
 rintro e w1 ⟨rfl, hb⟩
 have HB1 := tbB HB0 hb
 have HX1 := kpB hb HX0
 clear hb
 go_wp2_with fail
 rw [← HXe.out]
 refine (HR.out w1).mono ?_
 rintro e w2 ⟨rfl, hb⟩
 have HB2 := tbB HB1 hb
 have HX2 := kpB hb HX1
 clear hb
 go_wp2_with (first | (refine AC rfl _ _ _ rfl w2.heap.size C rfl rfl _ _ (AL _ _) HCS.out (by rw [← HCN.out]; rfl) HCO.out ?_) | fail)
 intro u1 hu1
 have hb : Below w2.heap.size w2 u1 := by rw [hu1.out]; exact AQ bAx nR _
 have hy : u1.heap[w2.heap.size]? = some (.cells C 44 (0, 0)) := by rw [hu1.out]; exact AR (AL _ _)
 clear hu1
 obtain ⟨w3, hww⟩ : ∃ w', w' = u1 := ⟨_, rfl⟩
 rw [← hww] at hb hy ⊢
 clear hww
 have HB3 := tbB HB2 hb
 have HX3 := kpB hb HX2
 have HC3 := lh hy
 obtain ⟨BL, hBL⟩ := nXe (w2.heap.size)
 rw [← hBL] at HC3 ⊢
 clear hBL hb hy
 have HA0 := lh (AccR.nil (f := H32.cs) (e := 44) (size := 32) w3)
 go_wp2
 rw [← HYe.out]
 skip
 go_loopw [13, 14] (fun q x wr => ∃ (k : Nat) (T : ByteArray) (v : Value) (l : List H32) (ht : (bl T).length = 32 * k), v = x ∧ q = .string T ∧ k ≤ n ∧ AccH w3 wr v l ∧ Hid (l.length + k = n) ∧ Hid (l ++ Cw k (bl T) ht = L))
  (fun q _ _ => match q with | .string T => T.size | _ => 0)
 case atStart => exact ⟨n, Y, _, [], hYs, rfl, rfl, Nat.le_refl _, HA0.out, lh (by simp), lh HLe.out.symm⟩
 case round =>
  obtain ⟨k, T, v, l, ht, rfl, rfl, hk, hA, hlk, hp⟩ := hrel
  have hTs : T.size = 32 * k := by rw [← AP]; exact ht
  obtain ⟨HA, HAb⟩ := l2h hA hA.bel
  clear hA HA0
  by_cases h0 : k = 0
  ·skip
   subst h0
   have hT0 : T.size = 0 := by omega
   have hRl : l = L := by
        have := hp.out
        rw [Cw, List.append_nil] at this
        exact this
   subst hRl
   have hsl := HA.out.sl
   have Hsl := lh hsl
   obtain ⟨av, cv, rfl, _, _⟩ := hsl.form
   obtain ⟨HCr, HXr, HBr⟩ := l3h ((HAb.out.block _ (AJ HC3.out)).trans HC3.out) ((HAb.out.block _ (AJ HX3.out)).trans HX3.out) (HB3.out.trans (HAb.out.mono HB3.out.size))
   clear hsl
   go_wp2_with (first | (refine wpList_load_row rfl _ _ rfl BL rfl _ C (0, 0) _ HCr.out underlying44 rfl HCS.out ?_) | fail)
   refine (HCl.out wr _ Hsl.out).mono ?_
   rintro e w5 ⟨rfl, hb⟩
   have HB5 := tbB HBr hb
   have HX5 := kpB hb HXr
   clear hb
   go_wp2_with (first | (refine AC rfl _ _ _ rfl w5.heap.size E rfl rfl _ _ (AL _ _) HES.out (by rw [← HZE.out, HZN.out]; rfl) HEO.out ?_) | fail)
   intro u1 hu1
   have hb : Below w5.heap.size w5 u1 := by rw [hu1.out]; exact AQ bAx nR _
   have hy : u1.heap[w5.heap.size]? = some (.cells E 44 (0, 0)) := by rw [hu1.out]; exact AR (AL _ _)
   clear hu1
   obtain ⟨w6, hww⟩ : ∃ w', w' = u1 := ⟨_, rfl⟩
   rw [← hww] at hb hy ⊢
   clear hww
   have HB6 := tbB HB5 hb
   have HX6 := kpB hb HX5
   have HE6 := lh hy
   clear hb hy
   have heq := HEQ.out
   have hG := HGG.out
   cases q
   ·have hrs : res = 9 := HRes.out
    subst hrs
    go_wp2_with (first | (refine wpList_load_row rfl _ _ rfl w5.heap.size rfl _ E (0, 0) _ HE6.out underlying44 rfl HES.out ?_) | (refine wpList_load_row rfl _ _ rfl w.heap.size rfl _ p (0, 0) _ HX6.out underlying44 rfl HPS.out ?_) | fail)
    go_ret
    exact ⟨rfl, HB6.out⟩
   ·have hrs : res = 0 := HRes.out
    subst hrs
    go_wp2_with (first | (refine wpList_load_row rfl _ _ rfl w5.heap.size rfl _ E (0, 0) _ HE6.out underlying44 rfl HES.out ?_) | (refine wpList_load_row rfl _ _ rfl w.heap.size rfl _ p (0, 0) _ HX6.out underlying44 rfl HPS.out ?_) | fail)
    go_ret
    exact ⟨rfl, HB6.out⟩
  ·skip
   obtain ⟨j, rfl⟩ : ∃ j, k = j + 1 := ⟨k - 1, by omega⟩
   have hgt : 0 < T.size := by omega
   have ht2 : 32 ≤ (bl T).length := by omega
   obtain ⟨ph, hh⟩ := nXe (partH (bl T) ht2)
   obtain ⟨N, hN⟩ := nXe (ph.A)
   obtain ⟨PT, hPT⟩ := nXe (T.extract 0 32)
   have MW : PT.size = 32 := by rw [hPT, ByteArray.size_extract]; omega
   have L9 : (bl PT).take 32 = (bl T).take 32 := by rw [hPT, Aj]; simp [List.take_take]
   have hrow : (Z.toList.take 0 ++ byV ((bl PT).take 32) ++ Z.toList.drop (0 + 32)).toArray = N := by
        have : Z.toList.drop (0 + 32) = [] := List.drop_of_length_le (by have := HZN.out; simp; omega)
        rw [this, hN, hh, L9]
        simp [H32.A, partH]
   obtain ⟨HRow, HNe⟩ := l2h hrow hN
   have HNS := lh (show (Tryz.prog.info? 44).map (·.size) = some N.size by rw [hN]; exact ph.info)
   have hNn : N.size = 32 := by rw [hN]; exact ph.size
   have hmin : Nat.min PT.size 32 = 32 := by show min PT.size 32 = 32; omega
   have hfit : 0 + 32 ≤ Z.size := by rw [HZN.out]; omega
   have HPT := lh hPT.symm
   clear hrow hN hPT L9
   go_wp2_with fail
   rw [HLIT.out]
   obtain ⟨wz, hwz⟩ := nXe (wr.alloc (.cells Z 44))
   rw [← hwz]
   have hbz : Below wr.heap.size wr wz := by rw [hwz]; exact bAx
   have HZz := lh (show wz.heap[wr.heap.size]? = some (.cells Z 44 (0, 0)) by rw [hwz]; exact AL _ _)
   clear hwz
   have HBz := lh hbz
   clear hbz
   have hT32 : 32 ≤ T.size := by omega
   have hn32 : ¬ 32 * ((j : Int) + 1) < 32 := by omega
   have Mq : (32 : Int) ≤ 32 * ((j : Int) + 1) := by omega
   refine wp_region_noPanic ?_
   refine Wr.BI (S := (fun W => W.heap[wr.heap.size]? = some (.cells Z 44 (0, 0)))) (K := [3]) (by kernel_rfl) ?_
   change Wr.Ar _ _ _ _ _ _ _ _ _ (World.drew wz)
   have hBL0 : Below wr.heap.size wr (World.drew wz) := Bl.drew HBz.out
   have hS0 : (World.drew wz).heap[wr.heap.size]? = some (.cells Z 44 (0, 0)) := HZz.out
   refine Wr.tkE 0 ?_ ?_ hS0 ?_
   rotate_left
   ·intro wq _
    go_simp
    rfl
   simp only [sq]
   refine Wr.tkE 1 ?_ ?_ hS0 ?_
   rotate_left
   ·intro wq _
    go_simp
    rfl
   simp only [sq]
   refine Wr.tkE 2 ?_ ?_ hS0 ?_
   rotate_left
   ·intro wq _
    have hpt := HPT.out
    go_simp
    rfl
   simp only [sq]
   refine Wr.BJ (i := 3) (by kernel_rfl) (by kernel_rfl) ?_
   refine WrC.Be rfl (by rfl) (.tmp 39) (.tmp 41) _ _ rfl _ underlying100 (by kernel_rfl) wr.heap.size 0 32 32 PT rfl rfl _ _ hS0 32 (hmin) (hfit) ?_
   intro u2 hw_u2
   have hBL1 : Below wr.heap.size wr u2 := by rw [hw_u2.out]; exact AQ hBL0 nR _
   simp only [sq]
   refine Wr.Ag (by kernel_rfl) (NoPanic.normal ?_) _
   rw [HRow.out] at hw_u2
   have HX2 := lh (show u2.heap[wr.heap.size]? = some (.cells N 44 (0, 0)) by rw [hw_u2.out]; exact AR hS0)
   have hb : Below wr.heap.size wr u2 := by rw [hw_u2.out]; exact AQ hBL0 nR _
   have HA2 := lh (HA.out.below hb)
   clear hw_u2 hb hS0 hBL0 hBL1 MW
   have hXb : bl (T.extract 32 T.size) = (bl T).drop 32 := by rw [Aj, List.take_of_length_le (by rw [List.length_drop, AP]; omega)]
   rw [hTs] at hXb
   have HXb := lh hXb
   have hll := hlk.out
   clear hXb
   go_wp2_with (first | (refine wpList_load_row rfl _ _ rfl wr.heap.size rfl _ N (0, 0) _ HX2.out underlying44 rfl HNS.out ?_) | (at_builtin; rw [Fy N hNn]; go_must (refine Bd tyHs hF HA2.out ph rfl _ _ rfl rfl N (by rw [HNe.out]; rfl) _ rfl (by first | rfl | simp) ?hl ?hb ?go)))
   case hl => unfold maxLen; omega
   case hb => omega
   case go =>
   intro v3 w9 A3
   have HA3 := lh A3
   clear A3
   go_wp2
   go_roundw
   case rel =>
        have hlen : (bl (T.extract 32 (32 * (j + 1)))).length = 32 * j := by rw [HXb.out, List.length_drop]; omega
        refine ⟨j, _, _, _, hlen, rfl, rfl, by omega, HA3.out, lh (by rw [List.length_append]; simp; omega), lh ?_⟩
        have h1 := hp.out
        rw [Cw] at h1
        rw [← h1, List.append_assoc]
        congr 2
        have : ∀ (a b : List UInt8) (e : a = b) (ha : a.length = 32 * j) (hb : b.length = 32 * j), Cw j a ha = Cw j b hb := fun a b e ha hb => by subst e; rfl
        exact congrArg (List.cons _) (this _ _ HXb.out _ _)
   case measure => simp; omega
theorem Gp (w : World) (rt : H32) (n : Nat) (text sig : ByteArray) (hn : n ≤ 7) (ht : text.size ≤ 140737488351232) (hs : sig.size ≤ maxLen) :
 Calls Tryz.prog 45 #[.agg rt.A, .int .i64 n, .string text, .string sig] w (RB (.int .i64 (verify rt.l n (bl text) (bl sig))) w) := by
 unfold verify
 cases hb : sigB n (bl sig)
 ·rw [if_neg (by simp)]
  have hP := fun w => RkP.KS w n sig hn hs hb
  have HP := lh hP
  clear hP hb hs ht
  obtain ⟨p, hp⟩ := nXe (rt.A)
  rw [← hp]
  clear hp
  obtain ⟨w0, hw0⟩ := nXe (w.alloc (.cells p 44))
  have HB0 := lh (show Below w.heap.size w w0 by rw [hw0]; exact bAx)
  have HW0 := lh hw0
  clear hw0
  go_enter func45, ntmps45
  go_wp2_with fail
  rw [← HW0.out]
  refine (HP.out w0).mono ?_
  rintro e w1 ⟨rfl, hb⟩
  have HB1 := tbB HB0 hb
  clear hb
  go_wp2
  go_ret
  exact ⟨rfl, HB1.out⟩
 ·rw [if_pos rfl]
  unfold sigB at hb
  simp only [Bool.and_eq_true, decide_eq_true_eq, AP] at hb
  exact Jh w rt n text sig hn ht hb.1 hb.2
end RkV
namespace RkJ
open Go Go.RowKit Go.Shelf Steps RowsX Lift KeyS KeyA TreeA ShaA BookA BookB BookD BkR BkC BkF RkH RkI
theorem Gp (w : World) (v : Value) (L : List Gr') (sv at' : Int) (text sig : ByteArray) (hv : Sl w v 36 L.length (L.flatMap Gr'.cs)) (ht : text.size ≤ 140737488351232) (hs : sig.size ≤ maxLen) :
 Calls Tryz.prog 23 #[v, .int .i64 sv, .int .i64 at', .string text, .string sig] w (RB (.int .i64 (A7 L sv at' (bl text) (bl sig))) w) := by
 have hF := Kq w v L sv at' hv
 unfold findG IW at hF
 unfold A7
 cases hbk : C9 L
 ·rw [hbk] at hF
  rw [if_neg (by simp), if_neg (by simp)] at hF
  rw [if_neg (by simp)]
  obtain ⟨C, hC⟩ := nXe (FY.A)
  rw [← hC] at hF
  have HCS := lh (show (Tryz.prog.info? 65).map (·.size) = some C.size by rw [hC]; exact DN _)
  have HCN := lh (show 36 = C.size by rw [hC]; exact (DL _).symm)
  have HCO := lh (show C.all (·.oneCell') = true by rw [hC]; kernel_rfl)
  have HF := lh hF
  clear hF hC hv hbk
  go_enter func23, ntmps23
  go_wp2_with fail
  refine HF.out.mono ?_
  rintro e w1 ⟨rfl, hb⟩
  have HB1 := lh hb
  clear hb
  go_wp2_with (first | (refine AC rfl _ _ _ rfl w1.heap.size C rfl rfl _ _ (AL _ _) HCS.out (by rw [← HCN.out]; rfl) HCO.out ?_) | fail)
  intro u1 hu1
  have HB2 := lh (show Below w.heap.size w u1 by rw [hu1.out]; exact AQ (HB1.out.alloc HB1.out.size _) HB1.out.size _)
  clear hu1
  go_wp2
  go_ret
  exact ⟨rfl, HB2.out⟩
 ·rw [hbk] at hF
  rw [if_pos rfl, if_pos rfl] at hF
  rw [if_pos rfl]
  cases hfd : L.find? (Bo · sv at') with
  | none =>
    rw [hfd] at hF
    replace hF : Calls Tryz.prog 44 #[v, .int .i64 sv, .int .i64 at'] w (RB (.tuple #[.agg FY.A, .int .i64 3]) w) := hF
    show Calls _ _ _ _ (RB (.int .i64 3) w)
    obtain ⟨C, hC⟩ := nXe (FY.A)
    rw [← hC] at hF
    have HCS := lh (show (Tryz.prog.info? 65).map (·.size) = some C.size by rw [hC]; exact DN _)
    have HCN := lh (show 36 = C.size by rw [hC]; exact (DL _).symm)
    have HCO := lh (show C.all (·.oneCell') = true by rw [hC]; kernel_rfl)
    have HF := lh hF
    clear hF hC hv hbk hfd
    go_enter func23, ntmps23
    go_wp2_with fail
    refine HF.out.mono ?_
    rintro e w1 ⟨rfl, hb⟩
    have HB1 := lh hb
    clear hb
    go_wp2_with (first | (refine AC rfl _ _ _ rfl w1.heap.size C rfl rfl _ _ (AL _ _) HCS.out (by rw [← HCN.out]; rfl) HCO.out ?_) | fail)
    intro u1 hu1
    have HB2 := lh (show Below w.heap.size w u1 by rw [hu1.out]; exact AQ (HB1.out.alloc HB1.out.size _) HB1.out.size _)
    clear hu1
    go_wp2
    go_ret
    exact ⟨rfl, HB2.out⟩
  | some g =>
    rw [hfd] at hF
    replace hF : Calls Tryz.prog 44 #[v, .int .i64 sv, .int .i64 at'] w (RB (.tuple #[.agg g.A, .int .i64 0]) w) := hF
    show Calls _ _ _ _ (RB (.int .i64 (verify g.rt.l g.hi.toNat (bl text) (bl sig))) w)
    have hg := Gm hbk (List.mem_of_find?_eq_some hfd)
    obtain ⟨n, hnn⟩ := nXe (g.hi.toNat)
    have hn : g.hi = (n : Int) := by have := hg.h0; omega
    rw [← hnn]
    clear hnn
    have h7 : n ≤ 7 := by have := hg.h1; omega
    have hV := fun w => RkV.Gp w g.rt n text sig h7 ht hs
    obtain ⟨res, hres⟩ : ∃ r : Int, r = verify g.rt.l n (bl text) (bl sig) := ⟨_, rfl⟩
    rw [← hres] at hV ⊢
    obtain ⟨C, hC⟩ := nXe (g.A)
    obtain ⟨R, hR⟩ := nXe (g.rt.A)
    rw [← hC] at hF
    rw [← hR] at hV
    have c3 : C[3]? = some (.int .i64 (n : Int)) := by rw [hC, ← hn]; exact g.c3
    have HR4 := lh (show ∀ (j : Nat) (u : Value), R.toList[j]? = some u → C[4 + j]? = some u from fun j u h => by
        rw [hC]
        rw [hR] at h
        unfold Gr'.A Gr'.cs
        rw [List.getElem?_toArray, List.getElem?_append_right (by simp), ← h]
        simp [H32.A])
    have HRS := lh (show (Tryz.prog.info? 44).map (·.size) = some R.size by rw [hR]; exact H32.info _)
    have HCS := lh (show (Tryz.prog.info? 65).map (·.size) = some C.size by rw [hC]; exact DN _)
    have HCN := lh (show 36 = C.size by rw [hC]; exact (DL _).symm)
    have HCO := lh (show C.all (·.oneCell') = true by
        rw [hC, Array.all_eq_true_iff_forall_mem]
        intro u hu
        exact grF.one g u (by simpa [Gr'.A] using hu))
    obtain ⟨HF, HV⟩ := l2h hF hV
    clear hF hV hC hR hv hfd hbk hres hs ht hn hg
    go_enter func23, ntmps23
    go_wp2_with fail
    refine HF.out.mono ?_
    rintro e w1 ⟨rfl, hb⟩
    have HB1 := lh hb
    clear hb
    go_wp2_with (first | (refine AC rfl _ _ _ rfl w1.heap.size C rfl rfl _ _ (AL _ _) HCS.out (by rw [← HCN.out]; rfl) HCO.out ?_) | fail)
    intro u1 hu1
    have HB2 := lh (show Below w.heap.size w u1 by rw [hu1.out]; exact AQ (HB1.out.alloc HB1.out.size _) HB1.out.size _)
    have HX2 := lh (show u1.heap[w1.heap.size]? = some (.cells C 65 (0, 0)) by rw [hu1.out]; exact AR (AL _ _))
    clear hu1
    have hc3 : u1.cell? ⟨w1.heap.size, 3, none⟩ = some (.int .i64 (n : Int)) := by rw [AO HX2.out]; exact c3
    have Hc4 := lh (show ∀ (j : Nat) (u : Value), R.toList[j]? = some u → u1.cell? ⟨w1.heap.size, 4 + j, none⟩ = some u from fun j u h => by rw [AO HX2.out]; exact HR4.out j u h)
    go_wp2_with (first | (refine Ah rfl _ _ rfl w1.heap.size 4 rfl R Hc4.out underlying44 rfl HRS.out ?_) | fail)
    refine (HV.out u1).mono ?_
    rintro e w3 ⟨rfl, hb⟩
    have HB3 := tbB HB2 hb
    clear hb
    go_wp2
    go_ret
    exact ⟨rfl, HB3.out⟩
end RkJ
namespace SnP
open Go Go.RowKit Go.ChangeMaps OctetS OctG ShaS EntS WireS WireT BookA RowsX Lift Steps SnK SnT SnM SnF
attribute [-go_sem] Builtin.append_
def K8 : Array Value := (oneL 0 ⟨#[]⟩ 0 0 Cg ⟨#[]⟩ ⟨#[]⟩ ⟨#[]⟩).toArray
theorem K7 {sm : List UInt8} (h : sm.length = 32) (sv : Int) (r : ByteArray) (ep ix : Int) (g text sig : ByteArray) : (oneL sv r ep ix sm g text sig).length = 39 := by unfold oneL; simp [AZ, h]
theorem one_one (sv : Int) (r : ByteArray) (ep ix : Int) (sm : List UInt8) (g text sig : ByteArray) : ∀ u ∈ oneL sv r ep ix sm g text sig, u.oneCell' = true := by
 intro u hu
 unfold oneL byV at hu
 simp only [List.mem_append, List.mem_cons, List.not_mem_nil, or_false, List.mem_map] at hu
 rcases hu with ((rfl | rfl | rfl | rfl) | ⟨b, _, rfl⟩) | (rfl | rfl | rfl) <;> rfl
theorem oF : El 39 oneF := ⟨fun x => K7 (by simp; omega) _ _ _ _ _ _ _, fun x u hu => one_one _ _ _ _ _ _ _ _ u hu⟩
theorem Li : BN Tryz.prog 29 50 39 120 (.agg #[.int .i64 0, .string ⟨#[]⟩, .int .i64 0, .int .i64 0, .int .u8 0, .int .u8 0, .int .u8 0, .int .u8 0, .int .u8 0, .int .u8 0, .int .u8 0, .int .u8 0, .int .u8 0, .int .u8 0, .int .u8 0, .int .u8 0, .int .u8 0, .int .u8 0, .int .u8 0, .int .u8 0, .int .u8 0, .int .u8 0, .int .u8 0, .int .u8 0, .int .u8 0, .int .u8 0, .int .u8 0, .int .u8 0, .int .u8 0, .int .u8 0, .int .u8 0, .int .u8 0, .int .u8 0, .int .u8 0, .int .u8 0, .int .u8 0, .string ⟨#[]⟩, .string ⟨#[]⟩, .string ⟨#[]⟩]) := BN.mk' (by kernel_rfl) (by kernel_rfl) rfl (by omega)
def rowOf : Option Sn → Array Value
 | some x => (oneF x).toArray
 | none => K8
theorem Iq (sv : Int) (h : Hd) (L : List Sn) {k : Nat} {x : Sn} (hx : L[k]? = some x) : first (L.drop k) sv h = if atB sv h x then some x else first (L.drop (k + 1)) sv h := by
 have hk : k < L.length := (List.getElem?_eq_some_iff.1 hx).1
 have hd : L.drop k = x :: L.drop (k + 1) := by rw [List.drop_eq_getElem_cons hk]; congr 1; exact (List.getElem?_eq_some_iff.1 hx).2
 unfold first
 rw [hd, List.find?_cons]
 cases atB sv h x <;> rfl
theorem JK (w : World) (bv s : Value) (L : List Sn) (sv : Int) (h : Hd) (hb : ∃ a n c, bv = .slice a n c) (hs : Sl w s 39 L.length (L.flatMap oneF)) (hL : L.length ≤ 1000) :
 Calls Tryz.prog 12 #[.agg #[bv, s], .int .i64 sv, .string (bsOf h.room), .int .i64 h.ep, .int .i64 h.ix] w fun e w' => e = .returned (.tuple #[.agg (rowOf (first L sv h)), .bool (first L sv h).isSome]) ∧ Below w.heap.size w w' := by
 obtain ⟨ba, bn, bc, rfl⟩ := hb
 obtain ⟨a, cap, rfl, hcap, hm⟩ := hs.form
 obtain ⟨A, hA⟩ := nXe (first L sv h)
 have hdr : first (L.drop 0) sv h = A := by rw [hA]; rfl
 rw [← hA]
 have HDR := lh hdr
 have HOi := lh (show (Tryz.prog.info? 50).map (·.size) = some 39 by kernel_rfl)
 obtain ⟨R, hR⟩ := nXe (bsOf h.room)
 obtain ⟨ep, hep⟩ := nXe (h.ep)
 obtain ⟨ix, hix⟩ := nXe (h.ix)
 rw [← hR, ← hep, ← hix]
 obtain ⟨Hep, Hix⟩ := l2h hep hix
 clear hep hix
 obtain ⟨w1, hw1⟩ := nXe ((w.alloc (.cells #[.slice ba bn bc, .slice a L.length cap] 31)).alloc (.cells zL5 50))
 have hb1 : Below w.heap.size w w1 := by rw [hw1]; exact Bl.new (Bl.new (Below.refl _ _) _) _
 have hx1 : w1.heap[w.heap.size]? = some (.cells #[.slice ba bn bc, .slice a L.length cap] 31 (0, 0)) := by rw [hw1]; exact Ak (AL _ _) _
 have HY1 := lh (show w1.heap[w.heap.size + 1]? = some (.cells #[.int .i64 0, .string ⟨#[]⟩, .int .i64 0, .int .i64 0, .int .u8 0, .int .u8 0, .int .u8 0, .int .u8 0, .int .u8 0, .int .u8 0, .int .u8 0, .int .u8 0, .int .u8 0, .int .u8 0, .int .u8 0, .int .u8 0, .int .u8 0, .int .u8 0, .int .u8 0, .int .u8 0, .int .u8 0, .int .u8 0, .int .u8 0, .int .u8 0, .int .u8 0, .int .u8 0, .int .u8 0, .int .u8 0, .int .u8 0, .int .u8 0, .int .u8 0, .int .u8 0, .int .u8 0, .int .u8 0, .int .u8 0, .int .u8 0, .string ⟨#[]⟩, .string ⟨#[]⟩, .string ⟨#[]⟩] 50 (0, 0)) by rw [hw1]; exact Ad _ (by simp))
 obtain ⟨HS1, HB1, HW1, HR⟩ := l4h (Sl.below hs hb1) hb1 hw1 hR
 have hz1 : w1.heap.size = w.heap.size + 2 := by rw [hw1]; simp
 clear hs hb1 hw1 hdr hA hR hx1
 go_enter func12, ntmps12
 go_wp2
 rw [← HW1.out]
 go_loopw [17] (fun i wr => ∃ k : Nat, i = .int .i64 k ∧ k ≤ L.length ∧ Hid (first (L.drop k) sv h = A) ∧ Below w1.heap.size w1 wr) (fun i _ => L.length - (intOf i).toNat)
 case atStart => exact ⟨0, rfl, by omega, HDR, Below.refl _ _⟩
 case round =>
  obtain ⟨k, rfl, hk, hf, hB⟩ := hrel
  have hlB := hB.size
  by_cases hlt : k < L.length
  ·obtain ⟨x, hx⟩ : ∃ x, L[k]? = some x := ⟨_, List.getElem?_eq_getElem hlt⟩
   obtain ⟨ab, ao, rfl, hab, hc⟩ := BU oF (by omega) HS1.out hx
   have hst := Iq sv h L hx
   rw [hf.out] at hst
   obtain ⟨X, hX⟩ := nXe ((oneF x).toArray)
   have hXn : X.size = 39 := by rw [hX, List.size_toArray, oF.len]
   have HXN := lh hXn
   have HXO := lh (show X.all (·.oneCell') = true by rw [hX, Array.all_eq_true_iff_forall_mem]; intro u hu; exact oF.one x u (by simpa using hu))
   have x0 : X[0]? = some (.int .i64 x.sv) := by rw [hX]; rfl
   have x1 : X[1]? = some (.string (bsOf x.h.room)) := by rw [hX]; rfl
   have x2 : X[2]? = some (.int .i64 x.h.ep) := by rw [hX]; rfl
   have x3 : X[3]? = some (.int .i64 x.h.ix) := by rw [hX]; rfl
   have hrd := room_dec x.h.room h.room
   rw [← HR.out] at hrd
   obtain ⟨R2, hR2⟩ := nXe (bsOf x.h.room)
   rw [← hR2] at hrd x1
   have HC := lh (show ∀ (j : Nat) (u : Value), X.toList[j]? = some u → wr.cell? ⟨ab, ao + k * 39 + j, none⟩ = some u from fun j u hu => by rw [hX] at hu; exact (hB.cell (p := ⟨ab, ao + k * 39 + j, none⟩) hab).trans (hc j u hu))
   obtain ⟨HX, HX0, HX1, HX2, HX3, HST, HBr⟩ := l7h hX x0 x1 x2 x3 hst hB
   clear hc hst hX hXn x0 x1 x2 x3 hR2 hx hf hB
   go_wp2_with (first | (refine Ah rfl _ _ rfl ab (ao + k * 39) rfl X HC.out underlying50 rfl (by rw [HXN.out]; exact HOi.out) ?_) | (refine AC rfl _ _ _ rfl wr.heap.size X rfl rfl _ _ (AL _ _) (by rw [HXN.out]; exact HOi.out) (by rw [HXN.out]; rfl) HXO.out ?_))
   intro u hu
   obtain ⟨w2, hw2⟩ := nXe (u)
   rw [← hw2] at hu ⊢
   clear hw2
   have hb : Below wr.heap.size wr w2 := by rw [hu.out]; exact AQ bAx nR _
   have hf2 : w2.heap[wr.heap.size]? = some (.cells X 50 (0, 0)) := by rw [hu.out]; exact AR (AL _ _)
   have HF2 := lh hf2
   have HB2 := tbB HBr hb
   have k0 : w2.cell? ⟨wr.heap.size, 0, none⟩ = some (.int .i64 x.sv) := (AO hf2).trans HX0.out
   have k1 : w2.cell? ⟨wr.heap.size, 1, none⟩ = some (.string R2) := (AO hf2).trans HX1.out
   have k2 : w2.cell? ⟨wr.heap.size, 2, none⟩ = some (.int .i64 x.h.ep) := (AO hf2).trans HX2.out
   have k3 : w2.cell? ⟨wr.heap.size, 3, none⟩ = some (.int .i64 x.h.ix) := (AO hf2).trans HX3.out
   have hst := HST.out
   clear hb hu hf2 HST
   by_cases c1 : x.sv = sv
   rotate_left
   ·skip
    have t1 : (x.sv == sv) = false := by simpa using c1
    have u1 : decide (x.sv = sv) = false := dF (by simpa using c1)
    have hno : atB sv h x = false := by simp [atB, c1]
    rw [hno] at hst
    have HST := lh hst.symm
    clear hst hno
    go_wp2
    go_roundw
    case rel => exact ⟨k + 1, by go_num, by omega, HST, HB2.out⟩
    case measure => simp [intOf]; omega
   by_cases c2 : x.h.room = h.room
   rotate_left
   ·skip
    have t1 : (x.sv == sv) = true := by simpa using c1
    have u1 : decide (x.sv = sv) = true := dT (by simpa using c1)
    rw [dF c2] at hrd
    have hno : atB sv h x = false := by simp [atB, c1, c2]
    rw [hno] at hst
    have HST := lh hst.symm
    clear hst hno
    go_wp2
    go_roundw
    case rel => exact ⟨k + 1, by go_num, by omega, HST, HB2.out⟩
    case measure => simp [intOf]; omega
   by_cases c3 : x.h.ep = ep
   rotate_left
   ·skip
    have t1 : (x.sv == sv) = true := by simpa using c1
    have u1 : decide (x.sv = sv) = true := dT (by simpa using c1)
    rw [dT c2] at hrd
    have t3 : (x.h.ep == ep) = false := by simpa using c3
    have u3 : decide (x.h.ep = ep) = false := dF (by simpa using c3)
    have hno : atB sv h x = false := by simp [atB, c1, c2, show ¬ x.h.ep = h.ep from Hep.out ▸ c3]
    rw [hno] at hst
    have HST := lh hst.symm
    clear hst hno
    go_wp2
    go_roundw
    case rel => exact ⟨k + 1, by go_num, by omega, HST, HB2.out⟩
    case measure => simp [intOf]; omega
   by_cases c4 : x.h.ix = ix
   rotate_left
   ·skip
    have t1 : (x.sv == sv) = true := by simpa using c1
    have u1 : decide (x.sv = sv) = true := dT (by simpa using c1)
    rw [dT c2] at hrd
    have t3 : (x.h.ep == ep) = true := by simpa using c3
    have u3 : decide (x.h.ep = ep) = true := dT (by simpa using c3)
    have t4 : (x.h.ix == ix) = false := by simpa using c4
    have u4 : decide (x.h.ix = ix) = false := dF (by simpa using c4)
    have hno : atB sv h x = false := by simp [atB, c1, c2, show x.h.ep = h.ep from Hep.out ▸ c3, show ¬ x.h.ix = h.ix from Hix.out ▸ c4]
    rw [hno] at hst
    have HST := lh hst.symm
    clear hst hno
    go_wp2
    go_roundw
    case rel => exact ⟨k + 1, by go_num, by omega, HST, HB2.out⟩
    case measure => simp [intOf]; omega
   ·skip
    have t1 : (x.sv == sv) = true := by simpa using c1
    have u1 : decide (x.sv = sv) = true := dT (by simpa using c1)
    rw [dT c2] at hrd
    have t3 : (x.h.ep == ep) = true := by simpa using c3
    have u3 : decide (x.h.ep = ep) = true := dT (by simpa using c3)
    have t4 : (x.h.ix == ix) = true := by simpa using c4
    have u4 : decide (x.h.ix = ix) = true := dT (by simpa using c4)
    have Kk : atB sv h x = true := F6.2 ⟨c1, c2, Hep.out ▸ c3, Hix.out ▸ c4⟩
    rw [Kk, if_pos rfl] at hst
    have HST := lh hst
    have HY2 := lh ((HB2.out.block _ (show w.heap.size + 1 < w1.heap.size by omega)).trans HY1.out)
    clear hst Kk
    go_wp2_with (first | (refine wpList_load_row rfl _ _ rfl wr.heap.size rfl _ X (0, 0) _ HF2.out underlying50 rfl (by rw [HXN.out]; exact HOi.out) ?_) | (refine AC rfl _ _ _ rfl (w.heap.size + 1) X rfl rfl _ _ HY2.out (by rw [HXN.out]; exact HOi.out) (by rw [HXN.out]; rfl) HXO.out ?_))
    intro u hu
    obtain ⟨w3, hw3⟩ := nXe (u)
    rw [← hw3] at hu ⊢
    clear hw3
    have hr3 : w3.heap[w.heap.size + 1]? = some (.cells X 50 (0, 0)) := by rw [hu.out]; exact AR HY2.out
    have HB3 := lh (show Below w.heap.size w w3 by rw [hu.out]; exact AQ (HB1.out.trans (HB2.out.mono HB1.out.size)) (by omega) _)
    have HR3 := lh hr3
    clear hu hr3 k0 k1 k2 k3
    go_wp2
    refine bodyPost_ret (v := .tuple #[.agg X, .bool true]) (WireT.AU rfl _ _ (w.heap.size + 1) 50 X (0, 0) _ rfl HR3.out underlying50 rfl (by rw [HXN.out]; exact HOi.out) rfl) rfl ⟨?_, HB3.out⟩
    rw [HST.out, HX.out]
    rfl
  ·obtain rfl : k = L.length := by omega
   have hf' := hf.out
   rw [List.drop_length] at hf'
   have hAn : A = none := by rw [← hf']; rfl
   have HAN := lh hAn
   have HY2 := lh ((hB.block _ (show w.heap.size + 1 < w1.heap.size by omega)).trans HY1.out)
   have HBr := lh hB
   obtain ⟨Z, hZ⟩ := nXe (K8)
   have hZn : Z.size = 39 := by rw [hZ]; rfl
   have HZN := lh hZn
   have HZO := lh (show Z.all (·.oneCell') = true by rw [hZ, Array.all_eq_true_iff_forall_mem]; intro u hu; exact one_one _ _ _ _ _ _ _ _ u (by simpa [K8] using hu))
   have HZb := lh (show Tryz.prog.built 50 [] = some Z by rw [hZ]; kernel_rfl)
   have HZ := lh hZ
   clear hf hf' hAn hB hZ hZn
   go_wp2_with (first | (refine EntQ.CF rfl 50 _ rfl Z (by first | exact HZb.out | (go_simp; exact HZb.out)) ?_) | (refine AC rfl _ _ _ rfl (w.heap.size + 1) Z rfl rfl _ _ HY2.out (by rw [HZN.out]; exact HOi.out) (by rw [HZN.out]; rfl) HZO.out ?_))
   intro u hu
   obtain ⟨w3, hw3⟩ := nXe (u)
   rw [← hw3] at hu ⊢
   clear hw3
   have hr3 : w3.heap[w.heap.size + 1]? = some (.cells Z 50 (0, 0)) := by rw [hu.out]; exact AR HY2.out
   have HB3 := lh (show Below w.heap.size w w3 by rw [hu.out]; exact AQ (HB1.out.trans (HBr.out.mono HB1.out.size)) (by omega) _)
   have HR3 := lh hr3
   clear hu hr3
   go_wp2
   refine bodyPost_ret (v := .tuple #[.agg Z, .bool false]) (WireT.AU rfl _ _ (w.heap.size + 1) 50 Z (0, 0) _ rfl HR3.out underlying50 rfl (by rw [HZN.out]; exact HOi.out) rfl) rfl ⟨?_, HB3.out⟩
   rw [HAN.out, HZ.out]
   rfl
end SnP
end Go.Proofs.YtceiajepcokacaaGreatDoor
