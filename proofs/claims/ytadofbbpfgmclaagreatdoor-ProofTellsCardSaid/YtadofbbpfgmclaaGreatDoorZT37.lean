/-
  WHAT IS PROVED: contracts of functions, and plain laws. Condition: what each theorem names.
-/
import Derived.Test.YtadofbbpfgmclaaGreatDoorS0
import Derived.Test.YtadofbbpfgmclaaGreatDoorZTBH17
import Derived.Test.YtadofbbpfgmclaaGreatDoorZTH21
import Derived.Test.YtadofbbpfgmclaaGreatDoorZT36
set_option linter.unusedVariables false
set_option linter.unusedSimpArgs false
set_option maxRecDepth 100000
set_option maxHeartbeats 4000000
namespace Go.Proofs.YtadofbbpfgmclaaGreatDoor
open Go.Proofs.Tryz
namespace RkI
open Go Go.RowKit Go.Shelf Steps RowsX Lift KeyS KeyA TreeA ShaA BookA BookB BookD BkR BkC BkF RkH
theorem KN {L : List Gr'} {k : Nat} {g : Gr'} (h : L[k]? = some g) (f : Gr' → Bool) : (L.drop k).find? f = if f g = true then some g else (L.drop (k + 1)).find? f := by
 have hlt := (List.getElem?_eq_some_iff.1 h).1
 rw [List.drop_eq_getElem_cons hlt]
 rw [List.getElem?_eq_getElem hlt] at h
 rw [Option.some.inj h]
 cases hf : f g
 ·rw [List.find?_cons_of_neg (by simp [hf]), if_neg (by simp)]
 ·rw [List.find?_cons_of_pos (by simp [hf]), if_pos rfl]
theorem Ko (w : World) (v : Value) (L : List Gr') (sv at' : Int) (hv : Sl w v 36 L.length (L.flatMap Gr'.cs)) : Calls Tryz.prog 62 #[v, .int .i64 sv, .int .i64 at'] w (RB (.tuple #[.agg (findG L sv at').A, .int .i64 (Ib L sv at')]) w) := by
 obtain ⟨a, cap, rfl, hcap, hm⟩ := hv.form
 have Hrow := lh (fun (k : Nat) (g : Gr') (hx : L[k]? = some g) => Bo grF (by omega) hv hx)
 obtain ⟨Z, hZ⟩ := nXe (Fg.A)
 have HLIT : Hid (zq3 Z) := lh (by rw [hZ]; unfold zq3; kernel_rfl)
 have HZN : Hid (Z.size = 36) := lh (by rw [hZ]; exact DX _)
 have HZS : Hid ((Tryz.prog.info? 47).map (·.size) = some Z.size) := lh (by rw [hZ]; exact DY _)
 have HZO : Hid (Z.all (·.oneCell') = true) := lh (by rw [hZ]; kernel_rfl)
 obtain ⟨w0, hw0⟩ := nXe (w.alloc (.cells Z 47))
 have hb0 : Below w.heap.size w w0 := by rw [hw0]; exact bAx
 have h3 : w0.heap[w.heap.size]? = some (.cells Z 47 (0, 0)) := by rw [hw0]; exact AL _ _
 have hv0 := Sl.below hv hb0
 obtain ⟨HC, HB0, HX0, HW0⟩ := l4h (KV w0 _ L hv0) hb0 h3 hw0
 obtain ⟨RW, hRW⟩ : ∃ x : Int, x = Ib L sv at' := ⟨_, rfl⟩
 rw [← hRW]
 unfold findG
 obtain ⟨n, hn⟩ := nXe (L.length)
 rw [← hn] at HC hcap ⊢
 have Hn := lh hn
 cases hbk : EE L
 ·skip
  rw [hbk] at HC
  rw [if_neg (by simp)] at HC
  have hRw : RW = 2 := by rw [hRW]; unfold Ib; rw [hbk]; rfl
  subst hRw
  rw [if_neg (by simp), ← hZ]
  clear hRW hv0 h3 hw0 hb0 hv hcap hm hbk hZ hn
  go_enter func62, ntmps62
  go_wp2_with fail
  rw [HLIT.out, ← HW0.out]
  refine HC.out.mono ?_
  rintro e w1 ⟨rfl, hb⟩
  have HB1 := tbB HB0 hb
  have HX1 := kpB hb HX0
  clear hb
  go_wp2_with (first | (refine AC rfl _ _ _ rfl w.heap.size Z rfl (by rw [← HLIT.out]; rfl) _ _ HX1.out HZS.out rfl HZO.out ?_) | fail)
  intro wf hwf
  go_wp2
  refine bodyPost_ret (v := .tuple #[.agg Z, .int .i64 2]) (WireT.AV rfl _ _ w.heap.size 47 Z (0, 0) _ rfl (by rw [hwf.out]; exact AR HX1.out) underlying47 rfl HZS.out rfl) rfl ⟨rfl, by rw [hwf.out]; exact AQ HB1.out nR _⟩
 ·skip
  have hlen := book_len hbk
  rw [← hn] at hlen
  rw [hbk] at HC
  rw [if_pos rfl] at HC
  rw [if_pos rfl]
  obtain ⟨RG, hRG⟩ := nXe ((L.find? (Bt · sv at')).getD Fg)
  rw [← hRG]
  obtain ⟨HBK, HRG, HRW⟩ := l3h hbk hRG hRW
  obtain ⟨R, hR⟩ := nXe (RG.A)
  rw [← hR]
  have HR := lh hR
  clear hv0 h3 hw0 hb0 hv hm hbk hn hRG hRW hR
  go_enter func62, ntmps62
  go_wp2_with fail
  rw [HLIT.out, ← HW0.out]
  refine HC.out.mono ?_
  rintro e w1 ⟨rfl, hb⟩
  have HB1 := tbB HB0 hb
  have HX1 := kpB hb HX0
  clear hb
  have HZe := lh hZ
  clear hZ
  go_wp2
  go_loopw [16] (fun i wr => ∃ (k : Nat), i = .int .i64 k ∧ k ≤ n ∧ Hid ((L.drop k).find? (Bt · sv at') = L.find? (Bt · sv at')) ∧ wr.heap[w.heap.size]? = some (.cells Z 47 (0, 0)) ∧ Below w.heap.size w wr) (fun i _ => n - (intOf i).toNat)
  case atStart => exact ⟨0, rfl, by omega, lh rfl, HX1.out, HB1.out⟩
  case round =>
   obtain ⟨k, rfl, hk, hf, hx, hb⟩ := hrel
   have HF : Hid ((L.drop k).find? (Bt · sv at') = L.find? (Bt · sv at')) := hf
   obtain ⟨HXr, HBr⟩ := l2h hx hb
   clear hf hx hb HX1 HB1
   by_cases hlt : k < n
   ·skip
    obtain ⟨g, hg⟩ : ∃ g, L[k]? = some g := ⟨_, List.getElem?_eq_getElem (by rw [← Hn.out]; exact hlt)⟩
    obtain ⟨b, bo, rfl, hblt, hcc⟩ := Hrow.out k g hg
    have hstep := KN hg (Bt · sv at')
    rw [HF.out] at hstep
    obtain ⟨C, hC⟩ := nXe (g.A)
    have HCS := lh (show (Tryz.prog.info? 47).map (·.size) = some C.size by rw [hC]; exact DY g)
    have HCN := lh (show Z.size = C.size by rw [hC, DX]; exact HZN.out)
    have HC6 := lh (show 36 = C.size by rw [hC]; exact (DX g).symm)
    have HCO := lh (show C.all (·.oneCell') = true by
     rw [hC, Array.all_eq_true_iff_forall_mem]
     intro u hu
     exact grF.one g u (by simpa [Gr'.A] using hu))
    have Hcc := lh (show ∀ (j' : Nat) (u : Value), C.toList[j']? = some u → wr.cell? ⟨b, bo + k * 36 + j', none⟩ = some u from fun j' u h => (HBr.out.cell (p := ⟨b, bo + k * 36 + j', none⟩) hblt).trans (hcc j' u (by rw [hC] at h; exact h)))
    have c0 := g.c0
    have c1 := g.c1
    have c2 := g.c2
    rw [← hC] at c0 c1 c2
    have hfg : Bt g sv at' = (g.sv == sv && (decide (g.fr ≤ at') && decide (at' ≤ g.to))) := rfl
    obtain ⟨sg, hsg⟩ := nXe (g.sv)
    obtain ⟨fg, hfr⟩ := nXe (g.fr)
    obtain ⟨tg, htg⟩ := nXe (g.to)
    rw [← hsg] at c0
    rw [← hfr] at c1
    rw [← htg] at c2
    rw [← hsg, ← hfr, ← htg] at hfg
    rw [hfg] at hstep
    obtain ⟨HST, HCe⟩ := l2h hstep hC
    clear hcc hC hblt hstep hsg hfr htg hfg
    go_wp2_with (first | (refine Af rfl _ _ rfl b (bo + k * 36) rfl C Hcc.out underlying47 rfl HCS.out ?_) | (refine AC rfl _ _ _ rfl wr.heap.size C rfl rfl _ _ (AL _ _) HCS.out (by rw [← HC6.out]; rfl) HCO.out ?_) | fail)
    intro u1 hu1
    have hb : Below wr.heap.size wr u1 := by rw [hu1.out]; exact AQ bAx nR _
    have hyy : u1.heap[wr.heap.size]? = some (.cells C 47 (0, 0)) := by rw [hu1.out]; exact AR (AL _ _)
    clear hu1
    obtain ⟨w2, hww⟩ : ∃ w', w' = u1 := ⟨_, rfl⟩
    rw [← hww] at hb hyy ⊢
    clear hww
    have HB2 := tbB HBr hb
    have HX2 := kpB hb HXr
    have HY2 := lh hyy
    obtain ⟨BG, hBG⟩ := nXe (wr.heap.size)
    rw [← hBG] at HY2 ⊢
    clear hBG hb hyy
    have k0 : w2.cell? ⟨BG, 0, none⟩ = some (.int .i64 sg) := (AO HY2.out).trans c0
    have k1 : w2.cell? ⟨BG, 1, none⟩ = some (.int .i64 fg) := (AO HY2.out).trans c1
    have k2 : w2.cell? ⟨BG, 2, none⟩ = some (.int .i64 tg) := (AO HY2.out).trans c2
    obtain ⟨b0, h0⟩ : ∃ b, (sg == sv) = b := ⟨_, rfl⟩
    obtain ⟨b1, h1⟩ : ∃ b, decide (fg ≤ at') = b := ⟨_, rfl⟩
    obtain ⟨b2, h2⟩ : ∃ b, decide (at' ≤ tg) = b := ⟨_, rfl⟩
    rw [h0, h1, h2] at HST
    clear c0 c1 c2
    cases b0
    ·skip
     clear h1 h2
     have HN := lh (HST.out.trans (if_neg (by simp))).symm
     go_wp2
     go_roundw
     case rel => exact ⟨k + 1, by go_num, by omega, HN.out, HX2.out, HB2.out⟩
     case measure => simp [intOf]; omega
    cases b1
    ·skip
     clear h2
     have HN := lh (HST.out.trans (if_neg (by simp))).symm
     go_wp2
     go_roundw
     case rel => exact ⟨k + 1, by go_num, by omega, HN.out, HX2.out, HB2.out⟩
     case measure => simp [intOf]; omega
    cases b2
    ·skip
     skip
     have HN := lh (HST.out.trans (if_neg (by simp))).symm
     go_wp2
     go_roundw
     case rel => exact ⟨k + 1, by go_num, by omega, HN.out, HX2.out, HB2.out⟩
     case measure => simp [intOf]; omega
    have hf : L.find? (Bt · sv at') = some g := HST.out.trans (if_pos (by simp))
    have hRe : RG = g := by rw [HRG.out, hf]; rfl
    have hRw : RW = 0 := by rw [HRW.out]; unfold Ib; rw [HBK.out, hf]; rfl
    have hRC : R = C := by rw [HR.out, hRe, HCe.out]
    subst hRw
    subst hRC
    clear hf hRe
    go_wp2_with (first | (refine wpList_load_row rfl _ _ rfl BG rfl _ R (0, 0) _ HY2.out underlying47 rfl HCS.out ?_) | (refine AC rfl _ _ _ rfl w.heap.size R rfl rfl _ _ HX2.out HCS.out HCN.out HCO.out ?_) | fail)
    intro wf hwf
    go_wp2
    refine bodyPost_ret (v := .tuple #[.agg R, .int .i64 0]) (WireT.AV rfl _ _ w.heap.size 47 R (0, 0) _ rfl (by rw [hwf.out]; exact AR HX2.out) underlying47 rfl HCS.out rfl) rfl ⟨rfl, by rw [hwf.out]; exact AQ HB2.out nR _⟩
   ·skip
    obtain rfl : k = n := by omega
    have hf : L.find? (Bt · sv at') = none := by
     rw [← HF.out, List.drop_of_length_le (by rw [← Hn.out]; exact Nat.le_refl _)]
     rfl
    have hRe : R = Z := by rw [HR.out, HRG.out, hf, HZe.out]; rfl
    have hRw : RW = 3 := by rw [HRW.out]; unfold Ib; rw [HBK.out, hf]; rfl
    subst hRw
    subst hRe
    clear hf
    go_wp2_with (first | (refine AC rfl _ _ _ rfl w.heap.size R rfl (by rw [← HLIT.out]; rfl) _ _ HXr.out HZS.out rfl HZO.out ?_) | fail)
    intro wf hwf
    go_wp2
    refine bodyPost_ret (v := .tuple #[.agg R, .int .i64 3]) (WireT.AV rfl _ _ w.heap.size 47 R (0, 0) _ rfl (by rw [hwf.out]; exact AR HXr.out) underlying47 rfl HZS.out rfl) rfl ⟨rfl, by rw [hwf.out]; exact AQ HBr.out nR _⟩
end RkI
namespace RkA
open Go Go.RowKit Go.Shelf OctP OctG RowsX Lift ShaS KeyS ShaA ShaB Steps KeyA KeyB
open KeyD (conv_one)
attribute [-go_sem] Builtin.append_
theorem J7 (w : World) (s : ByteArray) (hs : s.size ≤ 140737488351232) : Calls Tryz.prog 126 #[.string s] w (RB (.string (bsOf (mid (bl s)))) w) := by
 obtain ⟨S, hS⟩ := nXe (sum (bl s))
 have hl : S.length = 32 := by rw [hS]; exact Bf _
 have hmid : mid (bl s) = S.take 16 := by rw [hS]; rfl
 rw [hmid]
 have hC := fun w => Jv.Gc w s hs
 rw [← hS] at hC
 clear hS hmid
 obtain ⟨X, hX⟩ := nXe ((byV S).toArray)
 have hXn : X.size = 32 := by rw [hX]; simp [byV, hl]
 have HXS : Hid ((Tryz.prog.info? 27).map (·.size) = some X.size) := lh (by rw [hXn]; kernel_rfl)
 have HXN : Hid (32 = X.size) := lh hXn.symm
 have HXO : Hid (X.all (·.oneCell') = true) := lh (by rw [hX]; simp [byV, Value.oneCell'])
 have HX := lh hX
 rw [← hX] at hC
 obtain ⟨HC, HL⟩ := l2h hC hl
 clear hC hX hXn hl
 go_enter func126, ntmps126
 go_wp2_with fail
 refine (HC.out w).mono ?_
 rintro e w1 ⟨rfl, hb⟩
 have HB1 := lh hb
 clear hb
 go_wp2_with (first | (refine AC rfl _ _ _ rfl w1.heap.size X rfl rfl _ _ (AL _ _) HXS.out (by rw [← HXN.out]; rfl) HXO.out ?_) | fail)
 intro u1 hu1
 have hb : Below w1.heap.size w1 u1 := by rw [hu1.out]; exact AQ bAx nR _
 have hy : u1.heap[w1.heap.size]? = some (.cells X 27 (0, 0)) := by rw [hu1.out]; exact AR (AL _ _)
 clear hu1
 obtain ⟨w2, hww⟩ : ∃ w', w' = u1 := ⟨_, rfl⟩
 rw [← hww] at hb hy ⊢
 clear hww
 have HB2 := tbB HB1 hb
 have hsl : Sl w2 (.slice (some ⟨w1.heap.size, 0, none⟩) 16 32) 1 (S.take 16).length (byV (S.take 16)) := by
  have h32 := EventB.Dz (n := 32) hy HXN.out (by simp [maxLen])
  rw [HX.out] at h32
  have h16 := Sl.take h32 (show 16 ≤ 32 by omega)
  have e : (S.take 16).length = 16 := by rw [List.length_take, HL.out]; rfl
  rw [e]
  simpa [byV, List.map_take] using h16
 have hcv := Bd w2 78 9 5 underlying78 underlying5 underlying9 _ _ hsl
 have Hy := lh hy
 clear hb hsl
 obtain ⟨cx, fx⟩ := AJ Hy.out
 clear hy
 go_wp2
 go_ret
 exact ⟨rfl, HB2.out⟩
theorem LC (w : World) (s : ByteArray) (n : Nat) (hs : s.size = 16) (hn : n ≤ 3) : Calls Tryz.prog 115 #[.string s, .int .i64 n] w (RB (.string (bsOf (on n (bl s)))) w) := by
 have hC := fun w s hs => J7 w s hs
 have HC := lh hC
 clear hC
 go_enter func115, ntmps115
 go_wp2
 go_loopw [0, 5] (fun x i wr => ∃ (k : Nat) (X : ByteArray), x = .string X ∧ i = .int .i64 k ∧ k ≤ n ∧ X.size = 16 ∧ Hid (on (n - k) (bl X) = on n (bl s)) ∧ Below w.heap.size w wr)
  (fun _ i _ => n - (intOf i).toNat)
 case atStart => exact ⟨0, s, rfl, rfl, by omega, hs, lh rfl, Below.refl _ _⟩
 case round =>
  obtain ⟨k, X, rfl, rfl, hk, hX, hon, hb⟩ := hrel
  have Hb := lh hb
  clear hb
  by_cases hlt : k < n
  ·skip
   obtain ⟨Y, hY⟩ := nXe (bsOf [2] ++ X)
   have hYb : bl Y = 2 :: bl X := by rw [hY]; simp [bl, bsOf]
   have hYs : Y.size = 17 := by rw [← AP, hYb, List.length_cons, AP, hX]
   have hcat : (⟨#[2]⟩ ++ X : ByteArray) = Y := hY.symm
   have hlen : ¬ 9223372036854775807 < 1 + X.size := by omega
   obtain ⟨HYb, HYs⟩ := l2h hYb hYs
   clear hY hYb hYs
   go_wp2_with fail
   refine (HC.out wr Y (by have := HYs.out; omega)).mono ?_
   rintro e w1 ⟨rfl, hb⟩
   have Hb1 := tbB Hb hb
   clear hb
   go_wp2
   go_roundw
   case rel => exact ⟨k + 1, _, rfl, by go_num, by omega, by rw [AY, DI], lh (by rw [← hon.out, AU, HYb.out, show n - k = (n - (k + 1)) + 1 by omega]; rfl), Hb1.out⟩
   case measure => simp [intOf]; omega
  ·obtain rfl : k = n := by omega
   go_wp2
   go_ret
   refine ⟨?_, Hb.out⟩
   have h := hon.out
   rw [Nat.sub_self] at h
   rw [← h]
   show Ending.returned (.string X) = .returned (.string (bsOf (bl X)))
   rw [Bj]
theorem Jw (w : World) (s : ByteArray) (hs : s.size ≤ 140737488351232) : Calls Tryz.prog 114 #[.string s] w fun e w' => ∃ v, e = .returned v ∧ AccN w w' v (digits (bl s)) := by
 have hM := fun w => J7 w s hs
 unfold digits
 obtain ⟨D, hD⟩ := nXe (digM (bl s))
 rw [← hD]
 obtain ⟨Qf, hQf⟩ := nXe (Dj D)
 obtain ⟨DG, hDG⟩ := nXe (Cb Qf)
 rw [← hQf, ← hDG]
 obtain ⟨HQf, MX⟩ := l2h hQf hDG
 clear hQf hDG
 obtain ⟨M, hMe⟩ := nXe (mid (bl s))
 have hMl : M.length = 16 := by rw [hMe]; exact DI _
 have hDM : M.flatMap (fun y => Cb y.toNat) = D := by rw [hD, hMe]; rfl
 have hDl : D.length = 64 := by rw [hD]; exact F9 _
 have hD3 : ∀ d ∈ D, d ≤ 3 := by rw [hD]; exact digM_le _
 rw [← hMe] at hM
 obtain ⟨B, hB⟩ := nXe (bsOf M)
 have hBs : B.size = 16 := by rw [hB, AY, hMl]
 have hBb : bl B = M := by rw [hB, AU]
 rw [← hB] at hM
 obtain ⟨HM, HDM, HDl, HD3, HBb, HMl, HA0⟩ := l7h hM hDM hDl hD3 hBb hMl (AccR.nil (f := inN) (e := 3) (size := 1) w)
 clear hM hD hMe hDM hDl hD3 hBb hMl hB
 go_enter func114, ntmps114
 go_wp2_with fail
 refine (HM.out w).mono ?_
 rintro e w1 ⟨rfl, hb⟩
 have HA1 := lh (HA0.out.below hb)
 clear hb
 go_wp2
 go_loopw [4, 5, 6] (fun x y i wr => ∃ (k q : Nat) (v : Value), v = x ∧ y = .int .i64 q ∧ i = .int .i64 k ∧ k ≤ 16 ∧ q ≤ 192 ∧ Hid (q = Dj ((M.take k).flatMap fun y => Cb y.toNat)) ∧ AccN w wr v ((M.take k).flatMap fun y => Cb y.toNat))
  (fun _ _ i _ => 16 - (intOf i).toNat)
 case atStart => exact ⟨0, 0, _, rfl, rfl, rfl, by omega, by omega, lh rfl, HA1.out⟩
 case round =>
  obtain ⟨k, q, v, rfl, rfl, rfl, hk, hq, hQ, hA⟩ := hrel
  have HA := lh hA
  have HQ : Hid (q = Dj ((M.take k).flatMap fun y => Cb y.toNat)) := hQ
  have hlen : ((M.take k).flatMap fun y => Cb y.toNat).length = 4 * k := by rw [len_flat, List.length_take, HMl.out, Nat.min_eq_left hk]
  have HLen := lh hlen
  have hqk : q ≤ 12 * k := by have := lackOf_le ((M.take k).flatMap fun y => Cb y.toNat); rw [hlen, ← HQ.out] at this; omega
  clear hA hlen HA1 hQ
  by_cases hlt : k < 16
  ·skip
   have hkB : k < B.size := by omega
   obtain ⟨b, hb⟩ : ∃ b, B[k] = b := ⟨_, rfl⟩
   have hMk : M[k]? = some b := by
        rw [← HBb.out, List.getElem?_eq_getElem (by rw [AP]; exact hkB)]
        rw [← hb]
        rfl
   have hb8 := b.toNat_lt
   have HMk := lh hMk
   have hbn : (B[k].toNat) = b.toNat := by rw [hb]
   clear hMk hb
   obtain ⟨n0, hn0⟩ := nXe (b.toNat)
   obtain ⟨n1, hn1⟩ := nXe (n0 / 4)
   obtain ⟨n2, hn2⟩ := nXe (n1 / 4)
   obtain ⟨n3, hn3⟩ := nXe (n2 / 4)
   obtain ⟨d0, hd0⟩ := nXe (n0 % 4)
   obtain ⟨d1, hd1⟩ := nXe (n1 % 4)
   obtain ⟨d2, hd2⟩ := nXe (n2 % 4)
   obtain ⟨d3, hd3⟩ := nXe (n3 % 4)
   have hdg : Cb (b.toNat) = [d0, d1, d2, d3] := by rw [← hn0]; unfold Cb; rw [hd0, hd1, hd2, hd3, hn3, hn2, hn1, Nat.div_div_eq_div_mul, Nat.div_div_eq_div_mul]
   have HDG := lh hdg
   have m0 : ((n0 : Nat) : Int).tmod 4 = ((d0 : Nat) : Int) := by rw [hd0]; rfl
   have m1 : ((n1 : Nat) : Int).tmod 4 = ((d1 : Nat) : Int) := by rw [hd1]; rfl
   have m2 : ((n2 : Nat) : Int).tmod 4 = ((d2 : Nat) : Int) := by rw [hd2]; rfl
   have m3 : ((n3 : Nat) : Int).tmod 4 = ((d3 : Nat) : Int) := by rw [hd3]; rfl
   have t0 : ((n0 : Nat) : Int).tdiv 4 = ((n1 : Nat) : Int) := by rw [hn1]; rfl
   have t1 : ((n1 : Nat) : Int).tdiv 4 = ((n2 : Nat) : Int) := by rw [hn2]; rfl
   have t2 : ((n2 : Nat) : Int).tdiv 4 = ((n3 : Nat) : Int) := by rw [hn3]; rfl
   obtain ⟨n4, hn4⟩ := nXe (n3 / 4)
   have t3 : ((n3 : Nat) : Int).tdiv 4 = ((n4 : Nat) : Int) := by rw [hn4]; rfl
   have b0 : d0 ≤ 3 := by omega
   have b1 : d1 ≤ 3 := by omega
   have b2 : d2 ≤ 3 := by omega
   have b3 : d3 ≤ 3 := by omega
   have e0 : n0 ≤ 255 := by omega
   have e1 : n1 ≤ 255 := by omega
   have e2 : n2 ≤ 255 := by omega
   have e3 : n3 ≤ 255 := by omega
   have e4 : n4 ≤ 255 := by omega
   rw [← hn0] at hbn
   have x0 : wrap64 ((n0 : Nat) : Int) = (n0 : Int) := by unfold wrap64; omega
   clear hn0 hn1 hn2 hn3 hn4 hd0 hd1 hd2 hd3 hdg hb8
   go_wp2_with fail
   refine wp_loop_rounds 5 ?_
   rw [rounds_succ]
   go_wp2_with (at_builtin; go_must (refine Bi Dy inF HA.out d0 rfl _ _ rfl rfl #[.int .i64 (d0 : Int)] rfl _ rfl (by first | rfl | simp) ?hl ?hb ?go))
   case hl => simp only [List.length_append, List.length_cons, List.length_nil, HLen.out]; unfold maxLen; omega
   case hb => simp only [List.length_append, List.length_cons, List.length_nil, HLen.out]; omega
   case go =>
   intro v2 w2 A
   have HB1 := lh A
   clear A
   go_wp2_with fail
   rw [rounds_succ]
   go_wp2_with (at_builtin; go_must (refine Bi Dy inF HB1.out d1 rfl _ _ rfl rfl #[.int .i64 (d1 : Int)] rfl _ rfl (by first | rfl | simp) ?hl ?hb ?go))
   case hl => simp only [List.length_append, List.length_cons, List.length_nil, HLen.out]; unfold maxLen; omega
   case hb => simp only [List.length_append, List.length_cons, List.length_nil, HLen.out]; omega
   case go =>
   intro v3 w3 A
   have HB2 := lh A
   clear A
   go_wp2_with fail
   rw [rounds_succ]
   go_wp2_with (at_builtin; go_must (refine Bi Dy inF HB2.out d2 rfl _ _ rfl rfl #[.int .i64 (d2 : Int)] rfl _ rfl (by first | rfl | simp) ?hl ?hb ?go))
   case hl => simp only [List.length_append, List.length_cons, List.length_nil, HLen.out]; unfold maxLen; omega
   case hb => simp only [List.length_append, List.length_cons, List.length_nil, HLen.out]; omega
   case go =>
   intro v4 w4 A
   have HB3 := lh A
   clear A
   go_wp2_with fail
   rw [rounds_succ]
   go_wp2_with (at_builtin; go_must (refine Bi Dy inF HB3.out d3 rfl _ _ rfl rfl #[.int .i64 (d3 : Int)] rfl _ rfl (by first | rfl | simp) ?hl ?hb ?go))
   case hl => simp only [List.length_append, List.length_cons, List.length_nil, HLen.out]; unfold maxLen; omega
   case hb => simp only [List.length_append, List.length_cons, List.length_nil, HLen.out]; omega
   case go =>
   intro v5 w5 A
   have HB4 := lh A
   clear A
   go_wp2_with fail
   rw [rounds_succ]
   go_wp2
   go_roundw
   case rel =>
        refine ⟨k + 1, q + (3 - d0) + (3 - d1) + (3 - d2) + (3 - d3), _, rfl, by go_num, by go_num, by omega, by omega, lh ?_, ?_⟩
        ·rw [Em HMk.out, HDG.out, HQ.out]
         simp [Dj]
         omega
        ·rw [Em HMk.out, HDG.out]
         have h := HB4.out
         exact h
   case measure => simp [intOf]; omega
  ·skip
   obtain rfl : k = 16 := by omega
   have hA := HA.out
   have hQ := HQ.out
   rw [List.take_of_length_le (by rw [HMl.out]; omega), HDM.out] at hA hQ
   obtain ⟨HA1, HQ1⟩ := l2h hA hQ
   clear hA hQ HA HQ HLen
   obtain ⟨n0, hn0⟩ := nXe (q)
   obtain ⟨n1, hn1⟩ := nXe (n0 / 4)
   obtain ⟨n2, hn2⟩ := nXe (n1 / 4)
   obtain ⟨n3, hn3⟩ := nXe (n2 / 4)
   obtain ⟨d0, hd0⟩ := nXe (n0 % 4)
   obtain ⟨d1, hd1⟩ := nXe (n1 % 4)
   obtain ⟨d2, hd2⟩ := nXe (n2 % 4)
   obtain ⟨d3, hd3⟩ := nXe (n3 % 4)
   have hdg : Cb (q) = [d0, d1, d2, d3] := by rw [← hn0]; unfold Cb; rw [hd0, hd1, hd2, hd3, hn3, hn2, hn1, Nat.div_div_eq_div_mul, Nat.div_div_eq_div_mul]
   have HDG := lh hdg
   have m0 : ((n0 : Nat) : Int).tmod 4 = ((d0 : Nat) : Int) := by rw [hd0]; rfl
   have m1 : ((n1 : Nat) : Int).tmod 4 = ((d1 : Nat) : Int) := by rw [hd1]; rfl
   have m2 : ((n2 : Nat) : Int).tmod 4 = ((d2 : Nat) : Int) := by rw [hd2]; rfl
   have m3 : ((n3 : Nat) : Int).tmod 4 = ((d3 : Nat) : Int) := by rw [hd3]; rfl
   have t0 : ((n0 : Nat) : Int).tdiv 4 = ((n1 : Nat) : Int) := by rw [hn1]; rfl
   have t1 : ((n1 : Nat) : Int).tdiv 4 = ((n2 : Nat) : Int) := by rw [hn2]; rfl
   have t2 : ((n2 : Nat) : Int).tdiv 4 = ((n3 : Nat) : Int) := by rw [hn3]; rfl
   obtain ⟨n4, hn4⟩ := nXe (n3 / 4)
   have t3 : ((n3 : Nat) : Int).tdiv 4 = ((n4 : Nat) : Int) := by rw [hn4]; rfl
   have b0 : d0 ≤ 3 := by omega
   have b1 : d1 ≤ 3 := by omega
   have b2 : d2 ≤ 3 := by omega
   have b3 : d3 ≤ 3 := by omega
   have e0 : n0 ≤ 255 := by omega
   have e1 : n1 ≤ 255 := by omega
   have e2 : n2 ≤ 255 := by omega
   have e3 : n3 ≤ 255 := by omega
   have e4 : n4 ≤ 255 := by omega
   subst hn0
   clear hn1 hn2 hn3 hn4 hd0 hd1 hd2 hd3 hdg
   go_wp2_with fail
   refine wp_loop_rounds 5 ?_
   rw [rounds_succ]
   go_wp2_with (at_builtin; go_must (refine Bi Dy inF HA1.out d0 rfl _ _ rfl rfl #[.int .i64 (d0 : Int)] rfl _ rfl (by first | rfl | simp) ?hl ?hb ?go))
   case hl => simp only [List.length_append, List.length_cons, List.length_nil, HDl.out]; unfold maxLen; omega
   case hb => simp only [List.length_append, List.length_cons, List.length_nil, HDl.out]; omega
   case go =>
   intro v2 w2 A
   have HB1 := lh A
   clear A
   go_wp2_with fail
   rw [rounds_succ]
   go_wp2_with (at_builtin; go_must (refine Bi Dy inF HB1.out d1 rfl _ _ rfl rfl #[.int .i64 (d1 : Int)] rfl _ rfl (by first | rfl | simp) ?hl ?hb ?go))
   case hl => simp only [List.length_append, List.length_cons, List.length_nil, HDl.out]; unfold maxLen; omega
   case hb => simp only [List.length_append, List.length_cons, List.length_nil, HDl.out]; omega
   case go =>
   intro v3 w3 A
   have HB2 := lh A
   clear A
   go_wp2_with fail
   rw [rounds_succ]
   go_wp2_with (at_builtin; go_must (refine Bi Dy inF HB2.out d2 rfl _ _ rfl rfl #[.int .i64 (d2 : Int)] rfl _ rfl (by first | rfl | simp) ?hl ?hb ?go))
   case hl => simp only [List.length_append, List.length_cons, List.length_nil, HDl.out]; unfold maxLen; omega
   case hb => simp only [List.length_append, List.length_cons, List.length_nil, HDl.out]; omega
   case go =>
   intro v4 w4 A
   have HB3 := lh A
   clear A
   go_wp2_with fail
   rw [rounds_succ]
   go_wp2_with (at_builtin; go_must (refine Bi Dy inF HB3.out d3 rfl _ _ rfl rfl #[.int .i64 (d3 : Int)] rfl _ rfl (by first | rfl | simp) ?hl ?hb ?go))
   case hl => simp only [List.length_append, List.length_cons, List.length_nil, HDl.out]; unfold maxLen; omega
   case hb => simp only [List.length_append, List.length_cons, List.length_nil, HDl.out]; omega
   case go =>
   intro v5 w5 A
   have HB4 := lh A
   clear A
   go_wp2_with fail
   rw [rounds_succ]
   go_wp2
   go_ret
   refine ⟨_, rfl, ?_⟩
   have h := HB4.out
   rw [MX.out, HQf.out, ← HQ1.out, HDG.out]
   exact h
end RkA
namespace RkB
open Go Go.RowKit Go.Shelf OctP OctG RowsX Lift ShaS KeyS ShaA ShaB Steps KeyA KeyB TreeA WireT RkA
attribute [-go_sem] Builtin.append_
theorem LK (X Y : ByteArray) : bl (X ++ Y) = bl X ++ bl Y := KR X Y
theorem Ji (w : World) (text sig : ByteArray) (ht : text.size ≤ 140737488351232) (hs : sig.size = 1088) : Calls Tryz.prog 91 #[.string text, .string sig] w (RB (.tuple #[.agg (byV (recover (bl text) (bl sig))).toArray, .int .i64 0]) w) := by
 have hD := fun w => Jw w text (by omega)
 obtain ⟨D, hDe⟩ := nXe (digits (bl text))
 rw [← hDe] at hD
 have hDl : D.length = 68 := by rw [hDe]; exact digits_length _
 have hD3 : ∀ d ∈ D, d ≤ 3 := by rw [hDe]; exact GY _
 obtain ⟨HD, HDl, HD3, HDe⟩ := l4h hD hDl hD3 hDe
 clear hD hDl hD3 hDe
 obtain ⟨Z, hZ⟩ := nXe (CV.A)
 have HLIT : Hid (zq0 Z) := lh (by rw [hZ]; unfold zq0; kernel_rfl)
 have HZN : Hid (Z.size = 32) := lh (by rw [hZ]; exact H32.size _)
 have HZS : Hid ((Tryz.prog.info? 27).map (·.size) = some Z.size) := lh (by rw [hZ]; exact H32.info _)
 have HZO : Hid (Z.all (·.oneCell') = true) := lh (by rw [hZ]; exact H32.one _)
 obtain ⟨w0, hw0⟩ := nXe (w.alloc (.cells Z 27))
 have hb0 : Below w.heap.size w w0 := by rw [hw0]; exact (Below.refl _ w).alloc nR _
 have HX0 := lh (show w0.heap[w.heap.size]? = some (.cells Z 27 (0, 0)) by rw [hw0]; exact AL _ _)
 obtain ⟨HB0, HW0⟩ := l2h hb0 hw0
 obtain ⟨RES, hRES⟩ := nXe (recover (bl text) (bl sig))
 have hRl : RES.length = 32 := by rw [hRES]; exact Bf _
 have HRES := lh hRES
 rw [← hRES]
 obtain ⟨E, hE⟩ : ∃ E : Array Value, E = (byV RES).toArray := ⟨_, rfl⟩
 have hEn : E.size = 32 := by rw [hE]; simp [Ae, hRl]
 have HES := lh (show (Tryz.prog.info? 27).map (·.size) = some E.size by rw [hEn]; kernel_rfl)
 have HEN := lh (show 32 = E.size by rw [hEn])
 have HEO := lh (show E.all (·.oneCell') = true by rw [hE]; simp [byV, Value.oneCell'])
 rw [← hE]
 have HEe := lh hE
 clear hw0 hb0 hZ hRES hE hEn
 go_enter func91, ntmps91
 go_wp2_with fail
 rw [HLIT.out, ← HW0.out]
 refine (HD.out w0).mono ?_
 rintro e w1 ⟨dv, rfl, hdv⟩
 have hsl : SlN w1 dv D := hdv.sl
 obtain ⟨db, do_, dcap, rfl, MM, hdc⟩ := hsl.cells (by rw [HDl.out]; omega)
 have hb := hdv.bel
 rw [HDl.out]
 have HDC := lh hdc
 clear hdv hsl hdc
 have HX1 := kpB hb HX0
 have HB1 := tbB HB0 hb
 clear hb
 go_wp2
 go_loopw [6, 16] (fun x i wr => ∃ (k : Nat) (X : ByteArray), x = .string X ∧ i = .int .i64 k ∧ k ≤ 68 ∧ X.size = 16 * k + 1 ∧ Hid (bl X = recT (bl sig) D k) ∧ Below w1.heap.size w1 wr)
  (fun _ i _ => 68 - (intOf i).toNat)
 case atStart => exact ⟨0, _, rfl, rfl, by omega, rfl, lh rfl, Below.refl _ _⟩
 case round =>
  obtain ⟨k, X, rfl, rfl, hk, hXs, hX, hb⟩ := hrel
  have HBq := lh hb
  have HXl : Hid (bl X = recT (bl sig) D k) := hX
  clear hb hX
  by_cases hlt : k < 68
  ·skip
   obtain ⟨d, hd⟩ : ∃ d, D[k]? = some d := ⟨_, List.getElem?_eq_getElem (by rw [HDl.out]; exact hlt)⟩
   have hd3 := HD3.out d (List.mem_of_getElem? hd)
   have hcd : wr.cell? ⟨db, do_ + k, none⟩ = some (.int .i64 (d : Int)) := (HBq.out.cell (p := ⟨db, do_ + k, none⟩) MM).trans (HDC.out k d hd)
   have hgd : D.getD k 0 = d := by rw [List.getD_eq_getElem?_getD, hd]; rfl
   obtain ⟨C, hC⟩ := nXe (sig.extract (16 * k) (16 * (k + 1)))
   have hCs : C.size = 16 := by rw [hC, ByteArray.size_extract]; omega
   have hCb : bl C = ((bl sig).drop (16 * k)).take 16 := by rw [hC, Aj, show 16 * (k + 1) - 16 * k = 16 by omega]
   obtain ⟨m, hm⟩ := nXe (3 - d)
   have hmi : (3 : Int) - (d : Int) = (m : Int) := by omega
   have hm3 : m ≤ 3 := by omega
   obtain ⟨Y, hY⟩ := nXe (bsOf (on m (bl C)))
   have hYs : Y.size = 16 := by rw [hY, AY]; exact DR (by rw [AP, hCs]) _
   have hYb : bl Y = on (3 - D.getD k 0) (((bl sig).drop (16 * k)).take 16) := by rw [hY, AU, hCb, hgd, hm]
   have hO := fun w => LC w C m hCs hm3
   rw [← hY] at hO
   obtain ⟨HO, HYb⟩ := l2h hO hYb
   have hlen : ¬ 9223372036854775807 < X.size + Y.size := by omega
   have hXn : X.size ≤ 2000 := by omega
   have HXs := lh hXs
   clear hXs
   have HC := lh hC
   clear hO hC hCb hY hYb hd hgd hm
   go_wp2_with fail
   rw [← HC.out]
   refine (HO.out wr).mono ?_
   rintro e w2 ⟨rfl, hb⟩
   have HB2 := tbB HBq hb
   clear hb hcd
   go_wp2
   go_roundw
   case rel => exact ⟨k + 1, _, rfl, by go_num, by omega, by rw [ByteArray.size_append, HXs.out, hYs]; omega, lh (by rw [LK, HXl.out, HYb.out, recT_succ]), HB2.out⟩
   case measure => simp [intOf]; omega
  ·skip
   obtain rfl : k = 68 := by omega
   have HXF := lh (show ShaS.sum (bl X) = RES by rw [HXl.out, HRES.out, HDe.out]; rfl)
   obtain ⟨HBr, HXr⟩ := l2h (HB1.out.trans (HBq.out.mono HB1.out.size)) ((HBq.out.block _ (AB HX1.out)).trans HX1.out)
   go_wp2_with fail
   refine (Jv.Gc _ X (by omega)).mono ?_
   rintro e w9 ⟨rfl, hb⟩
   rw [HXF.out, ← HEe.out]
   have HC1 := tbB HBr hb
   have HY1 := kpB hb HXr
   clear hb
   go_wp2_with (first | (refine AC rfl _ _ _ rfl w.heap.size E rfl rfl _ _ HY1.out HES.out (by rw [HZN.out]; exact HEN.out) HEO.out ?_) | fail)
   intro wf hwf
   go_wp2
   refine bodyPost_ret (v := .tuple #[.agg E, .int .i64 0]) (WireT.AV rfl _ _ w.heap.size 27 E (0, 0) _ rfl (by rw [hwf.out]; exact AR HY1.out) underlying27 rfl HES.out rfl) rfl ⟨rfl, by rw [hwf.out]; exact AQ HC1.out nR _⟩
end RkB
namespace RkC
open Go Go.RowKit Go.Shelf OctP OctG RowsX Lift ShaS KeyS ShaA ShaB Steps KeyA KeyB TreeA TreeE TreeF TreeG WireT RkA
def Jl (x y : List UInt8) : List UInt8 := 1 :: (x ++ y)
theorem Jh (w : World) (x y : H32) : Calls Tryz.prog 127 #[.agg x.A, .agg y.A] w (RB (.string (bsOf (Jl x.l y.l))) w) := by
 have hxs := fun w g h => sl_row w g x h
 have hys := fun w g h => sl_row w g y h
 have hxl : x.l.length = 32 := x.len
 have hyl : y.l.length = 32 := y.len
 obtain ⟨X, hX⟩ : ∃ E : Array Value, E = (x).A := ⟨_, rfl⟩
 have HXS := lh (show (Tryz.prog.info? 27).map (·.size) = some X.size by rw [hX]; exact H32.info _)
 have HXN := lh (show 32 = X.size by rw [hX]; exact (H32.size _).symm)
 have HXO := lh (show X.all (·.oneCell') = true by rw [hX]; exact H32.one _)
 have HXe := lh hX
 obtain ⟨Y, hY⟩ : ∃ E : Array Value, E = (y).A := ⟨_, rfl⟩
 have HYS := lh (show (Tryz.prog.info? 27).map (·.size) = some Y.size by rw [hY]; exact H32.info _)
 have HYN := lh (show 32 = Y.size by rw [hY]; exact (H32.size _).symm)
 have HYO := lh (show Y.all (·.oneCell') = true by rw [hY]; exact H32.one _)
 have HYe := lh hY
 rw [← hX] at hxs ⊢
 rw [← hY] at hys ⊢
 obtain ⟨sx, hsx⟩ := nXe (bsOf x.l)
 obtain ⟨sy, hsy⟩ := nXe (bsOf y.l)
 have Mi : sx.size = 32 := by rw [hsx, AY, hxl]
 have Mh : sy.size = 32 := by rw [hsy, AY, hyl]
 obtain ⟨RES, hRES⟩ : ∃ q : ByteArray, q = ⟨#[1]⟩ ++ sx ++ sy := ⟨_, rfl⟩
 have hfin : bsOf (Jl x.l y.l) = RES := by
  rw [hRES, hsx, hsy]
  unfold Jl
  apply JH
  rw [AU]
  simp [bl, bsOf]
 rw [hfin]
 have l1 : ¬ 9223372036854775807 < 1 + sx.size := by omega
 have l2 : ¬ 9223372036854775807 < 1 + sx.size + sy.size := by omega
 have cvx := fun wq (q : wq.heap[w.heap.size]? = some (.cells X 27 (0, 0))) => Bd (P := Tryz.prog) wq 78 9 5 underlying78 underlying5 underlying9 _ _ (by have := hxs wq _ q; rw [show 32 = x.l.length from hxl.symm] at this; exact this)
 have cvy := fun wq (q : wq.heap[w.heap.size + 1]? = some (.cells Y 27 (0, 0))) => Bd (P := Tryz.prog) wq 78 9 5 underlying78 underlying5 underlying9 _ _ (by have := hys wq _ q; rw [show 32 = y.l.length from hyl.symm] at this; exact this)
 rw [hxl, ← hsx] at cvx
 rw [hyl, ← hsy] at cvy
 obtain ⟨HCX, HCY, HR⟩ := l3h cvx cvy hRES
 obtain ⟨w0, hw0⟩ := nXe ((w.alloc (.cells X 27)).alloc (.cells Y 27))
 have hb0 : Below w.heap.size w w0 := by rw [hw0]; exact ((Below.refl _ w).alloc nR _).alloc (by simp) _
 have HX0 := lh (show w0.heap[w.heap.size]? = some (.cells X 27 (0, 0)) by rw [hw0]; exact Ao (AL _ _) _)
 have HY0 := lh (show w0.heap[w.heap.size + 1]? = some (.cells Y 27 (0, 0)) by rw [hw0]; exact Ah _ (by simp))
 obtain ⟨HB0, HW0⟩ := l2h hb0 hw0
 clear hxs hys hX hY hsx hsy hRES hfin cvx cvy hw0 hb0 hxl hyl
 go_enter func127, ntmps127
 go_wp2_with fail
 rw [← HW0.out]
 refine wp_region_noPanic ?_
 refine Wr.BJ (S := (fun W => W.heap[w.heap.size]? = some (.cells X 27 (0, 0)) ∧ W.heap[w.heap.size + 1]? = some (.cells Y 27 (0, 0)))) (K := []) (by kernel_rfl) ?_
 change Wr.Aq _ _ _ _ _ _ _ _ _ (World.drew w0)
 have hBL0 : Below w0.heap.size w0 (World.drew w0) := Bl.drew (Below.refl _ _)
 have hS0 : (World.drew w0).heap[w.heap.size]? = some (.cells X 27 (0, 0)) ∧ (World.drew w0).heap[w.heap.size + 1]? = some (.cells Y 27 (0, 0)) := ⟨(hBL0.block _ (AB HX0.out)).trans HX0.out, (hBL0.block _ (AB HY0.out)).trans HY0.out⟩
 refine Wr.tkK (i := 0) (v := ?_) rfl (.inl ⟨by rfl, ?_⟩) hS0 ?_
 rotate_left
 ·intro wq hSw
  obtain ⟨q0, q1⟩ := hSw
  obtain ⟨qc0, qf0⟩ := AJ q0
  obtain ⟨qc1, qf1⟩ := AJ q1
  go_simp
  rfl
 simp only [Act.put, sxx]
 refine Wr.tkK (i := 1) (v := .string sx) rfl (.inl ⟨by rfl, ?_⟩) hS0 ?_
 ·intro wq hSw
  obtain ⟨q0, q1⟩ := hSw
  obtain ⟨qc0, qf0⟩ := AJ q0
  obtain ⟨qc1, qf1⟩ := AJ q1
  have cv := HCX.out wq q0
  go_simp
 simp only [Act.put, sxx]
 refine Wr.tkK (i := 2) (v := ?_) rfl (.inl ⟨by rfl, ?_⟩) hS0 ?_
 rotate_left
 ·intro wq hSw
  obtain ⟨q0, q1⟩ := hSw
  obtain ⟨qc0, qf0⟩ := AJ q0
  obtain ⟨qc1, qf1⟩ := AJ q1
  go_simp
  rfl
 simp only [Act.put, sxx]
 refine Wr.tkK (i := 3) (v := ?_) rfl (.inl ⟨by rfl, ?_⟩) hS0 ?_
 rotate_left
 ·intro wq hSw
  obtain ⟨q0, q1⟩ := hSw
  obtain ⟨qc0, qf0⟩ := AJ q0
  obtain ⟨qc1, qf1⟩ := AJ q1
  go_simp
  rfl
 simp only [Act.put, sxx]
 refine Wr.tkK (i := 4) (v := .string sy) rfl (.inl ⟨by rfl, ?_⟩) hS0 ?_
 ·intro wq hSw
  obtain ⟨q0, q1⟩ := hSw
  obtain ⟨qc0, qf0⟩ := AJ q0
  obtain ⟨qc1, qf1⟩ := AJ q1
  have cv := HCY.out wq q1
  go_simp
 simp only [Act.put, sxx]
 refine Wr.tkK (i := 5) (v := .string RES) rfl (.inl ⟨by rfl, ?_⟩) hS0 ?_
 ·intro wq hSw
  obtain ⟨q0, q1⟩ := hSw
  obtain ⟨qc0, qf0⟩ := AJ q0
  obtain ⟨qc1, qf1⟩ := AJ q1
  have hr := HR.out
  go_simp
 simp only [Act.put, sxx]
 refine Wr.tkK (i := 6) (v := ?_) rfl (.inl ⟨by rfl, ?_⟩) hS0 ?_
 rotate_left
 ·intro wq hSw
  obtain ⟨q0, q1⟩ := hSw
  obtain ⟨qc0, qf0⟩ := AJ q0
  obtain ⟨qc1, qf1⟩ := AJ q1
  go_simp
  rfl
 simp only [Act.put, sxx]
 refine Wr.Ai (by kernel_rfl) (NoPanic.normal ?_) _
 go_wp2
 go_ret
 exact ⟨rfl, HB0.out.trans (hBL0.mono HB0.out.size)⟩
end RkC
namespace RkW
open Go Go.RowKit Go.Shelf OctP OctG RowsX Lift ShaS KeyS ShaA ShaB Steps KeyA KeyB KeyG TreeA TreeB TreeE TreeF TreeG WireT RkA RkC
attribute [-go_sem] Builtin.append_
abbrev KW (w0 w : World) (v : Value) (l : List ByteArray) : Prop := AccR 9 1 strN w0 w v l
theorem JI {w0 w : World} {v : Value} {l : List ByteArray} {B : Nat} {cs old : Array Value} (h : KW w0 w v l) (hB : w.heap[B]? = some (.cells old 27 (0, 0))) (hge : w0.heap.size ≤ B) : KW w0 (w.setRow B cs) v l := by
 refine ⟨?_, AQ h.bel hge cs⟩
 obtain ⟨h1, h2⟩ := h.own
 refine ⟨h1, ?_⟩
 rcases h2 with h2 | ⟨g, cap, cur, fr, e1, e2, e3, e4⟩
 ·exact .inl h2
 ·refine .inr ⟨g, cap, cur, fr, e1, e2, ?_, e4⟩
  rw [CO _ (fun hg => by
   subst hg
   rw [hB] at e3
   simp only [Option.some.injEq, Obj.cells.injEq] at e3
   exact absurd e3.2.1 (by decide))]
  exact e3
theorem KH {W : World} {B : Nat} {t e : TypeId} {cs : Array Value} {fr : Nat × Nat} (h : W.heap[B]? = some (.cells cs t fr)) (hte : t ≠ e) {base size k : Nat} {v : Value} {xs : List Value} (hr : Ow W base e size v k xs) : v.ownBlock ≠ some B := by
 rcases hr.2 with ⟨rfl, _⟩ | ⟨g, cap, cur, fr', rfl, _, hgb, _⟩
 ·simp [Value.ownBlock]
 ·intro e'
  obtain rfl : g = B := by simpa [Value.ownBlock] using e'
  rw [h] at hgb
  simp only [Option.some.injEq, Obj.cells.injEq] at hgb
  exact hte hgb.2.1
theorem Iy {P : Program} {α : Type} {f : α → List Value} {t e : TypeId} {size bytes : Nat} {z : Value} {ops : Array Oper} {rest : List Oper} {o : Oper} {a : Act} {w : World} {Q : Exit → Act → World → Prop} (T : CU P t e size bytes z) (F : GI size f) {w0 : World} {v : Value} {l : List α} (A : AccR e size f w0 w v l) (x : α)
 (hgd : o.guard = none) (s y : Operand) (ho : o.op = .call { callee := .builtin .append, args := #[s, y], argTypes := #[t, t] }) (hv : a.eval s = v) (cs : Array Value) (hcs : cs.toList = f x)
 (g : Nat) (hy : a.eval y = .slice (some ⟨g, 0, none⟩) 1 1) (hgw : g = w.heap.size) (hl : l.length + 1 ≤ maxLen) (hb : (l.length + 1) * bytes ≤ 140737488355328)
 (h : ∀ v' w', AccR e size f w0 w' v' (l ++ [x]) → (∀ (B : Nat) (cs' : Array Value) (t' : TypeId) (fr : Nat × Nat), w.heap[B]? = some (.cells cs' t' fr) → t' ≠ e → w'.heap[B]? = some (.cells cs' t' fr)) → wpList P ops Q rest (a.put o.dst v') w') : wpList P ops Q (o :: rest) a (w.alloc (.cells cs e)) := by
 subst hgw
 have A' := A.alloc (.cells cs e)
 refine Ap _ hgd s y _ _ ho T w0.heap.size v l.length (l.flatMap f) hv A'.own _ 1 (f x) hy (Dt T.ht F w x cs hcs e) (l.length + 1) rfl ((l ++ [x]).flatMap f) (by rw [List.flatMap_append, List.flatMap_singleton]) hl hb A'.bel.size ?_
 intro a' c' w' hown hgrow _
 refine h _ _ ⟨?_, Bl.grown A'.bel hgrow (fun j hj => (A.own.lt j hj).1)⟩ (fun B cs' t' fr hB ht => Ky hgrow (Ao hB _) (KH hB ht A.own))
 rw [List.length_append]
 exact hown
theorem Jf (y p : H32) (m : Nat) (r : List H32) : Cz y m (p :: r) = Cz (if m % 2 = 0 then CQ y p else CQ p y) (m / 2) r := rfl
theorem Kz (w : World) (x : H32) (i : Nat) (v : Value) (L : List H32) (hv : Sl w v 32 L.length (L.flatMap H32.cs)) (hL : L.length ≤ 7) (hi : i < 2 ^ L.length) : Calls Tryz.prog 116 #[.agg x.A, .int .i64 i, v] w fun e w' => ∃ u ts, e = .returned (.tuple #[u, .bool true]) ∧ KW w w' u ts ∧ ts.length = L.length ∧ (0 < L.length → ∃ t, ts[L.length - 1]? = some t ∧ t.size = 65 ∧ ShaS.sum (bl t) = (Cz x i L).l) ∧ (L.length = 0 → Cz x i L = x) := by
 obtain ⟨a, cap, rfl, hcap, hm63⟩ := hv.form
 have Hrow := lh (fun (k : Nat) (g : H32) (hx : L[k]? = some g) => Bo hF (by omega) hv hx)
 have hi128 : i < 128 := Nat.lt_of_lt_of_le hi (Nat.le_trans (Nat.pow_le_pow_right (by omega) hL) (by omega))
 obtain ⟨RES, hRES⟩ := nXe (Cz x i L)
 have hE0 : L.length = 0 → RES = x := by intro h; rw [hRES, List.length_eq_zero_iff.1 h]; rfl
 rw [← hRES]
 have hR0 : Cz x i (L.drop 0) = RES := by rw [hRES]; rfl
 obtain ⟨HR0, HE0⟩ := l2h hR0 hE0
 obtain ⟨n, hn⟩ := nXe (L.length)
 rw [← hn] at hcap hi hL HE0 ⊢
 have Hn := lh hn
 have hiP : i < 2 ^ (n - 0) := hi
 have HI := lh hiP
 obtain ⟨X, hX⟩ : ∃ E : Array Value, E = (x).A := ⟨_, rfl⟩
 have hXn : X.size = 32 := by rw [hX]; exact H32.size _
 have HXS := lh (show (Tryz.prog.info? 27).map (·.size) = some X.size by rw [hX]; exact H32.info _)
 have HXN := lh (show 32 = X.size by rw [hX]; exact (H32.size _).symm)
 have HXO := lh (show X.all (·.oneCell') = true by rw [hX]; exact H32.one _)
 have HXe := lh hX
 rw [← hX]
 obtain ⟨w0, hw0⟩ := nXe (w.alloc (.cells X 27))
 have hb0 : Below w.heap.size w w0 := by rw [hw0]; exact (Below.refl _ w).alloc nR _
 have HX0 := lh (show w0.heap[w.heap.size]? = some (.cells X 27 (0, 0)) by rw [hw0]; exact AL _ _)
 obtain ⟨HB0, HW0⟩ := l2h hb0 hw0
 have hsz : w0.heap.size = w.heap.size + 1 := by rw [hw0]; simp
 have HSZ := lh hsz
 clear hv hm63 hRES hR0 hE0 hn hX hw0 hb0 hsz hi hiP
 go_enter func116, ntmps116
 go_wp2_with (first | (rw [← HW0.out]; refine wpList_load_row rfl _ _ rfl w.heap.size rfl _ X (0, 0) _ HX0.out underlying27 rfl HXS.out ?_) | (refine wpList_load_row rfl _ _ rfl w.heap.size rfl _ X (0, 0) _ HX0.out underlying27 rfl HXS.out ?_) | (refine AC rfl _ _ _ rfl w0.heap.size X rfl rfl _ _ (AL _ _) HXS.out (by rw [← HXN.out]; rfl) HXO.out ?_) | fail)
 intro u1 hu1
 have hb : Below w0.heap.size w0 u1 := by rw [hu1.out]; exact AQ bAx nR _
 have hy : u1.heap[w0.heap.size]? = some (.cells X 27 (0, 0)) := by rw [hu1.out]; exact AR (AL _ _)
 clear hu1
 obtain ⟨w1, hww⟩ : ∃ w', w' = u1 := ⟨_, rfl⟩
 rw [← hww] at hb hy ⊢
 clear hww
 obtain ⟨BA, hBA⟩ := nXe (w0.heap.size)
 rw [← hBA] at hy ⊢
 have gA : w.heap.size ≤ BA := by rw [hBA]; exact HB0.out.size
 clear hBA
 have HB1 := tbB HB0 hb
 have HA1 := lh hy
 clear hb hy
 have Lu := lh (AccR.below (AccR.nil (f := strN) (e := 9) (size := 1) w) HB1.out)
 rw [HXe.out] at HA1
 go_wp2
 go_loopw [1, 8, 23] (fun q out j wr => ∃ (k m : Nat) (y : H32) (vo : Value) (ts : List ByteArray), q = .int .i64 m ∧ out = vo ∧ j = .int .i64 k ∧ k ≤ n ∧ m < 128 ∧ Hid (m < 2 ^ (n - k)) ∧ Hid (Cz y m (L.drop k) = RES) ∧ KW w wr vo ts ∧ ts.length = k ∧ Hid (0 < k → ∃ t, ts[k - 1]? = some t ∧ t.size = 65 ∧ ShaS.sum (bl t) = y.l) ∧ wr.heap[BA]? = some (.cells y.A 27 (0, 0)))
  (fun _ _ j _ => n - (intOf j).toNat)
 case atStart => exact ⟨0, i, x, _, [], rfl, rfl, rfl, by omega, by omega, HI, HR0, Lu.out, rfl, lh (fun h => by omega), HA1.out⟩
 case round =>
  obtain ⟨k, m, y, vo, ts, rfl, rfl, rfl, hk, hm, hmp, hR, hA, htl, hlast, hy⟩ := hrel
  have HMP : Hid (m < 2 ^ (n - k)) := hmp
  have HR : Hid (Cz y m (L.drop k) = RES) := hR
  have HLA : Hid (0 < k → ∃ t, ts[k - 1]? = some t ∧ t.size = 65 ∧ ShaS.sum (bl t) = y.l) := hlast
  obtain ⟨HA, HY, HTL, HBr⟩ := l4h hA hy htl hA.bel
  clear hmp hR hlast hA hy htl Lu HR0 HI HA1
  by_cases hlt : k < n
  ·skip
   obtain ⟨p, hp⟩ : ∃ p, L[k]? = some p := ⟨_, List.getElem?_eq_getElem (by rw [← Hn.out]; exact hlt)⟩
   have hdrop : L.drop k = p :: L.drop (k + 1) := by
        have hlt' : k < L.length := by rw [← Hn.out]; exact hlt
        rw [List.drop_eq_getElem_cons hlt']
        rw [List.getElem?_eq_getElem hlt'] at hp
        rw [Option.some.inj hp]
   obtain ⟨b, ao, rfl, hblt, hcc⟩ := Hrow.out k p hp
   obtain ⟨P, hP⟩ : ∃ E : Array Value, E = (p).A := ⟨_, rfl⟩
   have hPn : P.size = 32 := by rw [hP]; exact H32.size _
   have HPS := lh (show (Tryz.prog.info? 27).map (·.size) = some P.size by rw [hP]; exact H32.info _)
   have HPN := lh (show 32 = P.size by rw [hP]; exact (H32.size _).symm)
   have HPO := lh (show P.all (·.oneCell') = true by rw [hP]; exact H32.one _)
   have HPe := lh hP
   obtain ⟨Y, hY⟩ : ∃ E : Array Value, E = (y).A := ⟨_, rfl⟩
   have hYn : Y.size = 32 := by rw [hY]; exact H32.size _
   have HYS := lh (show (Tryz.prog.info? 27).map (·.size) = some Y.size by rw [hY]; exact H32.info _)
   have HYN := lh (show 32 = Y.size by rw [hY]; exact (H32.size _).symm)
   have HYO := lh (show Y.all (·.oneCell') = true by rw [hY]; exact H32.one _)
   have HYe := lh hY
   have hcc2 : ∀ (j : Nat) (u : Value), P.toList[j]? = some u → wr.cell? ⟨b, ao + k * 32 + j, none⟩ = some u := fun j u h => (HBr.out.cell (p := ⟨b, ao + k * 32 + j, none⟩) hblt).trans (hcc j u (by rw [hP] at h; exact h))
   have Hcc := lh hcc2
   rw [← hY] at HY
   have hT1 := fun w => Jh w y p
   have hT2 := fun w => Jh w p y
   rw [← hY, ← hP] at hT1 hT2
   obtain ⟨S1, hS1⟩ := nXe (bsOf (Jl y.l p.l))
   obtain ⟨S2, hS2⟩ := nXe (bsOf (Jl p.l y.l))
   have hs1 : S1.size = 65 := by rw [hS1, AY]; unfold Jl; simp [y.len, p.len]
   have hs2 : S2.size = 65 := by rw [hS2, AY]; unfold Jl; simp [y.len, p.len]
   have he1 : ShaS.sum (bl S1) = (CQ y p).l := by rw [hS1, AU]; rfl
   have he2 : ShaS.sum (bl S2) = (CQ p y).l := by rw [hS2, AU]; rfl
   rw [← hS1] at hT1
   rw [← hS2] at hT2
   have hstep := Jf y p m (L.drop (k + 1))
   rw [← hdrop, HR.out] at hstep
   obtain ⟨HT1, HT2, He1, He2, HST⟩ := l5h hT1 hT2 he1 he2 hstep
   have hd2 : ((m : Nat) : Int).tdiv 2 = ((m / 2 : Nat) : Int) := rfl
   have hm2 : ((m : Nat) : Int).tmod 2 = ((m % 2 : Nat) : Int) := rfl
   obtain ⟨mq, hmq⟩ := nXe (m / 2)
   obtain ⟨mr, hmr⟩ := nXe (m % 2)
   rw [← hmq] at hd2
   rw [← hmr] at hm2
   have Ma : mq < 64 := by omega
   have Ml : mr < 2 := by omega
   have Lf : mq < 2 ^ (n - (k + 1)) := by
        have h := HMP.out
        rw [show n - k = (n - (k + 1)) + 1 by omega, Nat.pow_succ] at h
        omega
   rw [← hmq] at HST
   obtain ⟨HMQ, Hmr⟩ := l2h Lf hmr
   clear hT1 hT2 he1 he2 hstep hS1 hS2 hP hY hcc hcc2 hp hdrop hmq hmr Lf HMP HR
   go_wp2_with (first | (refine Af rfl _ _ rfl b (ao + k * 32) rfl P Hcc.out underlying27 rfl HPS.out ?_) | (refine AC rfl _ _ _ rfl wr.heap.size P rfl rfl _ _ (AL _ _) HPS.out (by rw [← HPN.out]; rfl) HPO.out ?_) | fail)
   intro u1 hu1
   have hb : Below wr.heap.size wr u1 := by rw [hu1.out]; exact AQ bAx nR _
   have hy : u1.heap[wr.heap.size]? = some (.cells P 27 (0, 0)) := by rw [hu1.out]; exact AR (AL _ _)
   clear hu1
   obtain ⟨w2, hww⟩ : ∃ w', w' = u1 := ⟨_, rfl⟩
   rw [← hww] at hb hy ⊢
   clear hww
   obtain ⟨BP, hBP⟩ := nXe (wr.heap.size)
   rw [← hBP] at hy ⊢
   clear hBP
   have HA2 := lh (HA.out.below hb)
   have HY2 := kpB hb HY
   have HP2 := lh hy
   clear hb hy
   go_wp2_with (first | (refine wpList_load_row rfl _ _ rfl BA rfl _ Y (0, 0) _ HY2.out underlying27 rfl HYS.out ?_) | (refine wpList_load_row rfl _ _ rfl BP rfl _ P (0, 0) _ HP2.out underlying27 rfl HPS.out ?_) | fail)
   refine (HT1.out w2).mono ?_
   rintro e w3 ⟨rfl, hb⟩
   have HA3 := lh (HA2.out.below hb)
   have HY3 := kpB hb HY2
   have HP3 := kpB hb HP2
   clear hb
   have hcm : (mr = 0 ∧ (CQ y p) = (if m % 2 = 0 then CQ y p else CQ p y)) ∨ (mr = 1 ∧ (CQ p y) = (if m % 2 = 0 then CQ y p else CQ p y)) := by
        rcases Nat.lt_or_ge mr 1 with h | h
        ·exact .inl ⟨by omega, by rw [if_pos (by rw [← Hmr.out]; omega)]⟩
        ·exact .inr ⟨by omega, by rw [if_neg (by rw [← Hmr.out]; omega)]⟩
   rcases hcm with ⟨rfl, hq⟩ | ⟨rfl, hq⟩
   ·skip
    have Hq := lh hq
    clear hq
    go_wp2_with (at_builtin; go_must (refine Iy OctQ.Gv strNF HA3.out S1 rfl _ _ rfl rfl #[.string S1] rfl _ rfl (by first | rfl | simp) ?hl ?hb ?go))
    case hl => rw [HTL.out]; unfold maxLen; omega
    case hb => rw [HTL.out]; omega
    case go =>
    intro v5 w5 A5 K5
    have hb5 : Below w.heap.size w w5 := A5.bel
    have HA5 := lh A5
    have HY5 := lh (show w5.heap[BA]? = some (.cells Y 27 (0, 0)) by first | exact K5 _ _ _ _ HY3.out (by decide) | exact K5 _ _ _ _ _ HY3.out (by decide))
    clear A5 K5 hb5
    go_wp2_with fail
    refine (Jv.Gc w5 S1 (by omega)).mono ?_
    rintro e w6 ⟨rfl, hb⟩
    rw [He1.out]
    have HA6 := lh (HA5.out.below hb)
    have HY6 := kpB hb HY5
    clear hb
    obtain ⟨yn, hyn⟩ := nXe (CQ y p)
    rw [show (byV (CQ y p).l).toArray = yn.A from by rw [hyn]; rfl]
    obtain ⟨N, hN⟩ : ∃ E : Array Value, E = (yn).A := ⟨_, rfl⟩
    have hNn : N.size = 32 := by rw [hN]; exact H32.size _
    have HNS := lh (show (Tryz.prog.info? 27).map (·.size) = some N.size by rw [hN]; exact H32.info _)
    have HNN := lh (show 32 = N.size by rw [hN]; exact (H32.size _).symm)
    have HNO := lh (show N.all (·.oneCell') = true by rw [hN]; exact H32.one _)
    have HNe := lh hN
    rw [← hN]
    have Hyn := lh hyn
    clear hyn hN
    go_wp2_with (first | (refine AC rfl _ _ _ rfl BA N rfl rfl _ _ HY6.out HNS.out (by rw [← HYN.out]; exact HNN.out) HNO.out ?_) | fail)
    intro wf hwf
    have HAf := lh (show KW w wf v5 (ts ++ [S1]) by rw [hwf.out]; exact JI HA6.out HY6.out gA)
    have HYf := lh (show wf.heap[BA]? = some (.cells N 27 (0, 0)) by rw [hwf.out]; exact AR HY6.out)
    clear hwf
    go_wp2
    go_roundw
    case rel =>
     refine ⟨k + 1, mq, yn, _, ts ++ [S1], by go_num, rfl, by go_num, by omega, by omega, HMQ, lh ?_, HAf.out, by rw [List.length_append, HTL.out]; rfl, lh (fun _ => ⟨S1, ?_, hs1, ?_⟩), ?_⟩
     ·rw [Hyn.out, Hq.out]; exact HST.out.symm
     ·rw [Nat.add_sub_cancel, List.getElem?_append_right (by rw [HTL.out]; exact Nat.le_refl _), HTL.out, Nat.sub_self]; rfl
     ·rw [He1.out, Hyn.out]
     ·rw [← HNe.out]; exact HYf.out
    case measure => simp [intOf]; omega
   ·skip
    go_wp2_with (first | (refine wpList_load_row rfl _ _ rfl BA rfl _ Y (0, 0) _ HY3.out underlying27 rfl HYS.out ?_) | (refine wpList_load_row rfl _ _ rfl BP rfl _ P (0, 0) _ HP3.out underlying27 rfl HPS.out ?_) | fail)
    refine (HT2.out w3).mono ?_
    rintro e w4 ⟨rfl, hb⟩
    have HA4 := lh (HA3.out.below hb)
    have HY4 := kpB hb HY3
    have HP4 := kpB hb HP3
    clear hb
    have Hq := lh hq
    clear hq
    go_wp2_with (at_builtin; go_must (refine Iy OctQ.Gv strNF HA4.out S2 rfl _ _ rfl rfl #[.string S2] rfl _ rfl (by first | rfl | simp) ?hl ?hb ?go))
    case hl => rw [HTL.out]; unfold maxLen; omega
    case hb => rw [HTL.out]; omega
    case go =>
    intro v5 w5 A5 K5
    have hb5 : Below w.heap.size w w5 := A5.bel
    have HA5 := lh A5
    have HY5 := lh (show w5.heap[BA]? = some (.cells Y 27 (0, 0)) by first | exact K5 _ _ _ _ HY4.out (by decide) | exact K5 _ _ _ _ _ HY4.out (by decide))
    clear A5 K5 hb5
    go_wp2_with fail
    refine (Jv.Gc w5 S2 (by omega)).mono ?_
    rintro e w6 ⟨rfl, hb⟩
    rw [He2.out]
    have HA6 := lh (HA5.out.below hb)
    have HY6 := kpB hb HY5
    clear hb
    obtain ⟨yn, hyn⟩ := nXe (CQ p y)
    rw [show (byV (CQ p y).l).toArray = yn.A from by rw [hyn]; rfl]
    obtain ⟨N, hN⟩ : ∃ E : Array Value, E = (yn).A := ⟨_, rfl⟩
    have hNn : N.size = 32 := by rw [hN]; exact H32.size _
    have HNS := lh (show (Tryz.prog.info? 27).map (·.size) = some N.size by rw [hN]; exact H32.info _)
    have HNN := lh (show 32 = N.size by rw [hN]; exact (H32.size _).symm)
    have HNO := lh (show N.all (·.oneCell') = true by rw [hN]; exact H32.one _)
    have HNe := lh hN
    rw [← hN]
    have Hyn := lh hyn
    clear hyn hN
    go_wp2_with (first | (refine AC rfl _ _ _ rfl BA N rfl rfl _ _ HY6.out HNS.out (by rw [← HYN.out]; exact HNN.out) HNO.out ?_) | fail)
    intro wf hwf
    have HAf := lh (show KW w wf v5 (ts ++ [S2]) by rw [hwf.out]; exact JI HA6.out HY6.out gA)
    have HYf := lh (show wf.heap[BA]? = some (.cells N 27 (0, 0)) by rw [hwf.out]; exact AR HY6.out)
    clear hwf
    go_wp2
    go_roundw
    case rel =>
     refine ⟨k + 1, mq, yn, _, ts ++ [S2], by go_num, rfl, by go_num, by omega, by omega, HMQ, lh ?_, HAf.out, by rw [List.length_append, HTL.out]; rfl, lh (fun _ => ⟨S2, ?_, hs2, ?_⟩), ?_⟩
     ·rw [Hyn.out, Hq.out]; exact HST.out.symm
     ·rw [Nat.add_sub_cancel, List.getElem?_append_right (by rw [HTL.out]; exact Nat.le_refl _), HTL.out, Nat.sub_self]; rfl
     ·rw [He2.out, Hyn.out]
     ·rw [← HNe.out]; exact HYf.out
    case measure => simp [intOf]; omega
  ·skip
   obtain rfl : k = n := by omega
   have hm0 : m = 0 := by have h := HMP.out; rw [Nat.sub_self] at h; omega
   subst hm0
   have hfin : y = RES := by have h := HR.out; rw [List.drop_of_length_le (by rw [← Hn.out]; exact Nat.le_refl _)] at h; exact h
   subst hfin
   go_wp2
   go_ret2
   exact ⟨_, ts, rfl, HA.out, HTL.out, HLA.out, HE0.out⟩
theorem KU (w : World) (x : H32) (i : Nat) (v : Value) (L : List H32) (hv : Sl w v 32 L.length (L.flatMap H32.cs)) (hL : L.length ≤ 7) (hi : i < 2 ^ L.length) : Calls Tryz.prog 92 #[.agg x.A, .int .i64 i, v] w (RB (.tuple #[.agg (Cz x i L).A, .int .i64 0]) w) := by
 obtain ⟨RES, hRES⟩ := nXe (Cz x i L)
 have hW := fun w' (hb : Below w.heap.size w w') => Kz w' x i v L (Sl.below hv hb) hL hi
 rw [← hRES] at hW ⊢
 obtain ⟨n, hn⟩ := nXe (L.length)
 rw [← hn] at hW hL
 obtain ⟨X, hX⟩ : ∃ E : Array Value, E = (x).A := ⟨_, rfl⟩
 have hXn : X.size = 32 := by rw [hX]; exact H32.size _
 have HXS := lh (show (Tryz.prog.info? 27).map (·.size) = some X.size by rw [hX]; exact H32.info _)
 have HXN := lh (show 32 = X.size by rw [hX]; exact (H32.size _).symm)
 have HXO := lh (show X.all (·.oneCell') = true by rw [hX]; exact H32.one _)
 have HXe := lh hX
 obtain ⟨R, hR⟩ : ∃ E : Array Value, E = (RES).A := ⟨_, rfl⟩
 have hRn : R.size = 32 := by rw [hR]; exact H32.size _
 have HRS := lh (show (Tryz.prog.info? 27).map (·.size) = some R.size by rw [hR]; exact H32.info _)
 have HRN := lh (show 32 = R.size by rw [hR]; exact (H32.size _).symm)
 have HRO := lh (show R.all (·.oneCell') = true by rw [hR]; exact H32.one _)
 have HRe := lh hR
 obtain ⟨Z, hZ⟩ : ∃ E : Array Value, E = (CV).A := ⟨_, rfl⟩
 have hZn : Z.size = 32 := by rw [hZ]; exact H32.size _
 have HZS := lh (show (Tryz.prog.info? 27).map (·.size) = some Z.size by rw [hZ]; exact H32.info _)
 have HZN := lh (show 32 = Z.size by rw [hZ]; exact (H32.size _).symm)
 have HZO := lh (show Z.all (·.oneCell') = true by rw [hZ]; exact H32.one _)
 have HZe := lh hZ
 rw [← hX] at hW ⊢
 rw [← hR]
 have HLIT : Hid (zq0 Z) := lh (by rw [hZ]; unfold zq0; kernel_rfl)
 obtain ⟨w0, hw0⟩ := nXe ((w.alloc (.cells X 27)).alloc (.cells Z 27))
 have hb0 : Below w.heap.size w w0 := by rw [hw0]; exact ((Below.refl _ w).alloc nR _).alloc (by simp) _
 have HX0 := lh (show w0.heap[w.heap.size]? = some (.cells X 27 (0, 0)) by rw [hw0]; exact Ao (AL _ _) _)
 have HZ0 := lh (show w0.heap[w.heap.size + 1]? = some (.cells Z 27 (0, 0)) by rw [hw0]; exact Ah _ (by simp))
 obtain ⟨HB0, HW0, HW⟩ := l3h hb0 hw0 (hW w0 hb0)
 clear hW hRES hn hX hR hZ hw0 hb0 hv hi
 go_enter func92, ntmps92
 go_wp2_with (first | (rw [HLIT.out, ← HW0.out]; refine wpList_load_row rfl _ _ rfl w.heap.size rfl _ X (0, 0) _ HX0.out underlying27 rfl HXS.out ?_) | (refine wpList_load_row rfl _ _ rfl w.heap.size rfl _ X (0, 0) _ HX0.out underlying27 rfl HXS.out ?_) | fail)
 refine HW.out.mono ?_
 rintro e w1 ⟨u, ts, rfl, hA, hl, hlast, h0⟩
 have hb := hA.bel
 have HB1 := tbB HB0 hb
 have HX1 := kpB hb HX0
 have HZ1 := kpB hb HZ0
 have hsl := hA.sl
 rw [hl] at hsl
 obtain ⟨a1, c1, rfl, hc1, hm1⟩ := hsl.form
 obtain ⟨Hsl, K9, H0⟩ := l3h hsl hlast h0
 clear hA hb hsl hlast h0
 rcases Nat.eq_zero_or_pos n with hz | hp
 ·skip
  subst hz
  have hXR : X = R := by rw [HXe.out, HRe.out, H0.out rfl]
  subst hXR
  go_wp2_with (first | (refine wpList_load_row rfl _ _ rfl w.heap.size rfl _ X (0, 0) _ HX1.out underlying27 rfl HXS.out ?_) | (refine AC rfl _ _ _ rfl (w.heap.size + 1) X rfl rfl _ _ HZ1.out HXS.out (by rw [← HZN.out]; exact HXN.out) HXO.out ?_) | fail)
  intro wf hwf
  go_wp2
  refine bodyPost_ret (v := .tuple #[.agg X, .int .i64 0]) (WireT.AV rfl _ _ (w.heap.size + 1) 27 X (0, 0) _ rfl (by rw [hwf.out]; exact AR HZ1.out) underlying27 rfl HXS.out rfl) rfl ⟨rfl, by rw [hwf.out]; exact AQ HB1.out (by omega) _⟩
 ·skip
  obtain ⟨t, ht, hts, hsum⟩ := K9.out hp
  obtain ⟨n1, rfl⟩ : ∃ q, n = q + 1 := ⟨n - 1, by omega⟩
  rw [Nat.add_sub_cancel] at ht
  obtain ⟨b, bo, hae, hblt, hcc⟩ := Bo strNF (by omega) (l := ts) (by rw [hl]; exact Hsl.out) ht
  subst hae
  have hcell : w1.cell? ⟨b, bo + n1, none⟩ = some (.string t) := by have := hcc 0 (.string t) rfl; rw [show bo + n1 * 1 + 0 = bo + n1 by omega] at this; exact this
  have LH := fun w => Jv.Gc w t (by omega)
  rw [hsum, show (byV RES.l).toArray = R from by rw [HRe.out]; rfl] at LH
  have HS := lh LH
  clear hcc LH hsum ht K9 H0 Hsl hl
  go_wp2_with fail
  refine (HS.out w1).mono ?_
  rintro e w2 ⟨rfl, hb⟩
  have HB2 := tbB HB1 hb
  have HZ2 := kpB hb HZ1
  clear hb
  go_wp2_with (first | (refine AC rfl _ _ _ rfl (w.heap.size + 1) R rfl rfl _ _ HZ2.out HRS.out (by rw [← HZN.out]; exact HRN.out) HRO.out ?_) | fail)
  intro wf hwf
  go_wp2
  refine bodyPost_ret (v := .tuple #[.agg R, .int .i64 0]) (WireT.AV rfl _ _ (w.heap.size + 1) 27 R (0, 0) _ rfl (by rw [hwf.out]; exact AR HZ2.out) underlying27 rfl HRS.out rfl) rfl ⟨rfl, by rw [hwf.out]; exact AQ HB2.out (by omega) _⟩
end RkW
end Go.Proofs.YtadofbbpfgmclaaGreatDoor
