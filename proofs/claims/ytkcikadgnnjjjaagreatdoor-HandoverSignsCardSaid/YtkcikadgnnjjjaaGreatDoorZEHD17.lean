/-
  WHAT IS PROVED: what the document finds in any book. Condition: what each theorem names.
-/
import Derived.Test.YtkcikadgnnjjjaaGreatDoorS0
import Derived.Test.YtkcikadgnnjjjaaGreatDoorZEHD15
import Derived.Test.YtkcikadgnnjjjaaGreatDoorZEHD16
set_option linter.unusedVariables false
set_option linter.unusedSimpArgs false
set_option maxRecDepth 100000
set_option maxHeartbeats 4000000
namespace Go.Proofs.YtkcikadgnnjjjaaGreatDoor.RkI
open Go Go.RowKit Go.Shelf Steps RowsX Lift KeyS KeyA TreeA ShaA BookA BookB BookD BkR BkC BkF RkH
theorem find_step {L : List Gr'} {k : Nat} {g : Gr'} (h : L[k]? = some g) (f : Gr' → Bool) : (L.drop k).find? f = if f g = true then some g else (L.drop (k + 1)).find? f := by
 have hlt := (List.getElem?_eq_some_iff.1 h).1
 rw [List.drop_eq_getElem_cons hlt]
 rw [List.getElem?_eq_getElem hlt] at h
 rw [Option.some.inj h]
 cases hf : f g
 ·rw [List.find?_cons_of_neg (by simp [hf]), if_neg (by simp)]
 ·rw [List.find?_cons_of_pos (by simp [hf]), if_pos rfl]
theorem Find2_ok (w : World) (v : Value) (L : List Gr') (sv at' : Int) (hv : Sl w v 36 L.length (L.flatMap Gr'.cs)) : Calls Tryz.prog 71 #[v, .int .i64 sv, .int .i64 at'] w (RB (.tuple #[.agg (findG L sv at').A, .int .i64 (findW L sv at')]) w) := by
 obtain ⟨a, cap, rfl, hcap, hm⟩ := hv.form
 have Hrow := lh (fun (k : Nat) (g : Gr') (hx : L[k]? = some g) => row_cells grF (by omega) hv hx)
 obtain ⟨Z, hZ⟩ := nXe (zeroG.A)
 have HLIT : Hid (zq1 Z) := lh (by rw [hZ]; unfold zq1; kernel_rfl)
 have HZN : Hid (Z.size = 36) := lh (by rw [hZ]; exact gr_size _)
 have HZS : Hid ((Tryz.prog.info? 66).map (·.size) = some Z.size) := lh (by rw [hZ]; exact gr_info _)
 have HZO : Hid (Z.all (·.oneCell') = true) := lh (by rw [hZ]; kernel_rfl)
 obtain ⟨w0, hw0⟩ := nXe (w.alloc (.cells Z 66))
 have hb0 : Below w.heap.size w w0 := by rw [hw0]; exact bAx
 have h3 : w0.heap[w.heap.size]? = some (.cells Z 66 (0, 0)) := by rw [hw0]; exact heap_new _ _
 have hv0 := Sl.below hv hb0
 have HC := lh (Check2_ok w0 _ L hv0)
 have HB0 := lh hb0
 have HX0 := lh h3
 have HW0 := lh hw0
 obtain ⟨RW, hRW⟩ : ∃ x : Int, x = findW L sv at' := ⟨_, rfl⟩
 rw [← hRW]
 unfold findG
 obtain ⟨n, hn⟩ := nXe (L.length)
 rw [← hn] at HC hcap ⊢
 have Hn := lh hn
 cases hbk : bookB L
 ·skip
  rw [hbk] at HC
  rw [if_neg (by simp)] at HC
  have hRw : RW = 2 := by rw [hRW]; unfold findW; rw [hbk]; rfl
  subst hRw
  rw [if_neg (by simp), ← hZ]
  clear hRW hv0 h3 hw0 hb0 hv hcap hm hbk hZ hn
  go_enter Tryz.func71, Tryz.ntmps71
  go_wp2_with fail
  rw [HLIT.out, ← HW0.out]
  refine HC.out.mono ?_
  rintro e w1 ⟨rfl, hb⟩
  have HB1 := tbB HB0 hb
  have HX1 := kpB hb HX0
  clear hb
  go_wp2_with (first | (refine wpList_store_rowA rfl _ _ _ rfl w.heap.size Z rfl (by rw [← HLIT.out]; rfl) _ _ HX1.out HZS.out rfl HZO.out ?_) | fail)
  intro wf hwf
  go_wp2
  refine bodyPost_ret (v := .tuple #[.agg Z, .int .i64 2]) (WireT.results_cell_slot rfl _ _ w.heap.size 66 Z (0, 0) _ rfl (by rw [hwf.out]; exact setRow_at HX1.out) Tryz.underlying66 rfl HZS.out rfl) rfl ⟨rfl, by rw [hwf.out]; exact below_row HB1.out (Nat.le_refl _) _⟩
 ·skip
  have hlen := book_len hbk
  rw [← hn] at hlen
  rw [hbk] at HC
  rw [if_pos rfl] at HC
  rw [if_pos rfl]
  obtain ⟨RG, hRG⟩ := nXe ((L.find? (foundB · sv at')).getD zeroG)
  rw [← hRG]
  have HBK := lh hbk
  have HRG := lh hRG
  have HRW := lh hRW
  obtain ⟨R, hR⟩ := nXe (RG.A)
  rw [← hR]
  have HR := lh hR
  clear hv0 h3 hw0 hb0 hv hm hbk hn hRG hRW hR
  go_enter Tryz.func71, Tryz.ntmps71
  go_wp2_with fail
  rw [HLIT.out, ← HW0.out]
  refine HC.out.mono ?_
  rintro e w1 ⟨rfl, hb⟩
  have HB1 := tbB HB0 hb
  have HX1 := kpB hb HX0
  clear hb
  have HZe := lh hZ
  clear hZ
  go_wp2
  go_loopw [16] (fun i wr => ∃ (k : Nat), i = .int .i64 k ∧ k ≤ n ∧ Hid ((L.drop k).find? (foundB · sv at') = L.find? (foundB · sv at')) ∧ wr.heap[w.heap.size]? = some (.cells Z 66 (0, 0)) ∧ Below w.heap.size w wr) (fun i _ => n - (intOf i).toNat)
  case atStart => exact ⟨0, rfl, by omega, lh rfl, HX1.out, HB1.out⟩
  case round =>
   obtain ⟨k, rfl, hk, hf, hx, hb⟩ := hrel
   have HF : Hid ((L.drop k).find? (foundB · sv at') = L.find? (foundB · sv at')) := hf
   have HXr := lh hx
   have HBr := lh hb
   clear hf hx hb HX1 HB1
   by_cases hlt : k < n
   ·skip
    obtain ⟨g, hg⟩ : ∃ g, L[k]? = some g := ⟨_, List.getElem?_eq_getElem (by rw [← Hn.out]; exact hlt)⟩
    obtain ⟨b, bo, rfl, hblt, hcc⟩ := Hrow.out k g hg
    have hstep := find_step hg (foundB · sv at')
    rw [HF.out] at hstep
    obtain ⟨C, hC⟩ := nXe (g.A)
    have HCS := lh (show (Tryz.prog.info? 66).map (·.size) = some C.size by rw [hC]; exact gr_info g)
    have HCN := lh (show Z.size = C.size by rw [hC, gr_size]; exact HZN.out)
    have HC6 := lh (show 36 = C.size by rw [hC]; exact (gr_size g).symm)
    have HCO := lh (show C.all (·.oneCell') = true by
     rw [hC, Array.all_eq_true_iff_forall_mem]
     intro u hu
     exact grF.one g u (by simpa [Gr'.A] using hu))
    have Hcc := lh (show ∀ (j' : Nat) (u : Value), C.toList[j']? = some u → wr.cell? ⟨b, bo + k * 36 + j', none⟩ = some u from fun j' u h => (HBr.out.cell (p := ⟨b, bo + k * 36 + j', none⟩) hblt).trans (hcc j' u (by rw [hC] at h; exact h)))
    have c0 := g.c0
    have c1 := g.c1
    have c2 := g.c2
    rw [← hC] at c0 c1 c2
    have hfg : foundB g sv at' = (g.sv == sv && (decide (g.fr ≤ at') && decide (at' ≤ g.to))) := rfl
    obtain ⟨sg, hsg⟩ := nXe (g.sv)
    obtain ⟨fg, hfr⟩ := nXe (g.fr)
    obtain ⟨tg, htg⟩ := nXe (g.to)
    rw [← hsg] at c0
    rw [← hfr] at c1
    rw [← htg] at c2
    rw [← hsg, ← hfr, ← htg] at hfg
    rw [hfg] at hstep
    have HST := lh hstep
    have HCe := lh hC
    clear hcc hC hblt hstep hsg hfr htg hfg
    go_wp2_with (first | (refine wpList_load_rowO rfl _ _ rfl b (bo + k * 36) rfl C Hcc.out Tryz.underlying66 rfl HCS.out ?_) | (refine wpList_store_rowA rfl _ _ _ rfl wr.heap.size C rfl rfl _ _ (heap_new _ _) HCS.out (by rw [← HC6.out]; rfl) HCO.out ?_) | fail)
    intro u1 hu1
    have hb : Below wr.heap.size wr u1 := by rw [hu1.out]; exact below_row bAx (Nat.le_refl _) _
    have hyy : u1.heap[wr.heap.size]? = some (.cells C 66 (0, 0)) := by rw [hu1.out]; exact setRow_at (heap_new _ _)
    clear hu1
    obtain ⟨w2, hww⟩ : ∃ w', w' = u1 := ⟨_, rfl⟩
    rw [← hww] at hb hyy ⊢
    clear hww
    have HB2 := tbB HBr hb
    have HX2 := kpB hb HXr
    have HY2 := lh hyy
    obtain ⟨BG, hBG⟩ := nXe (wr.heap.size)
    rw [← hBG] at HY2 ⊢
    clear hBG hb hyy
    have k0 : w2.cell? ⟨BG, 0, none⟩ = some (.int .i64 sg) := (cell_row HY2.out).trans c0
    have k1 : w2.cell? ⟨BG, 1, none⟩ = some (.int .i64 fg) := (cell_row HY2.out).trans c1
    have k2 : w2.cell? ⟨BG, 2, none⟩ = some (.int .i64 tg) := (cell_row HY2.out).trans c2
    obtain ⟨b0, h0⟩ : ∃ b, (sg == sv) = b := ⟨_, rfl⟩
    obtain ⟨b1, h1⟩ : ∃ b, decide (fg ≤ at') = b := ⟨_, rfl⟩
    obtain ⟨b2, h2⟩ : ∃ b, decide (at' ≤ tg) = b := ⟨_, rfl⟩
    rw [h0, h1, h2] at HST
    clear c0 c1 c2
    cases b0
    ·skip
     clear h1 h2
     have HN := lh (HST.out.trans (if_neg (by simp))).symm
     go_wp2
     go_roundw
     case rel => exact ⟨k + 1, by go_num, by omega, HN.out, HX2.out, HB2.out⟩
     case measure => simp [intOf]; omega
    cases b1
    ·skip
     clear h2
     have HN := lh (HST.out.trans (if_neg (by simp))).symm
     go_wp2
     go_roundw
     case rel => exact ⟨k + 1, by go_num, by omega, HN.out, HX2.out, HB2.out⟩
     case measure => simp [intOf]; omega
    cases b2
    ·skip
     skip
     have HN := lh (HST.out.trans (if_neg (by simp))).symm
     go_wp2
     go_roundw
     case rel => exact ⟨k + 1, by go_num, by omega, HN.out, HX2.out, HB2.out⟩
     case measure => simp [intOf]; omega
    have hf : L.find? (foundB · sv at') = some g := HST.out.trans (if_pos (by simp))
    have hRe : RG = g := by rw [HRG.out, hf]; rfl
    have hRw : RW = 0 := by rw [HRW.out]; unfold findW; rw [HBK.out, hf]; rfl
    have hRC : R = C := by rw [HR.out, hRe, HCe.out]
    subst hRw
    subst hRC
    clear hf hRe
    go_wp2_with (first | (refine wpList_load_row rfl _ _ rfl BG rfl _ R (0, 0) _ HY2.out Tryz.underlying66 rfl HCS.out ?_) | (refine wpList_store_rowA rfl _ _ _ rfl w.heap.size R rfl rfl _ _ HX2.out HCS.out HCN.out HCO.out ?_) | fail)
    intro wf hwf
    go_wp2
    refine bodyPost_ret (v := .tuple #[.agg R, .int .i64 0]) (WireT.results_cell_slot rfl _ _ w.heap.size 66 R (0, 0) _ rfl (by rw [hwf.out]; exact setRow_at HX2.out) Tryz.underlying66 rfl HCS.out rfl) rfl ⟨rfl, by rw [hwf.out]; exact below_row HB2.out (Nat.le_refl _) _⟩
   ·skip
    obtain rfl : k = n := by omega
    have hf : L.find? (foundB · sv at') = none := by
     rw [← HF.out, List.drop_of_length_le (by rw [← Hn.out]; exact Nat.le_refl _)]
     rfl
    have hRe : R = Z := by rw [HR.out, HRG.out, hf, HZe.out]; rfl
    have hRw : RW = 3 := by rw [HRW.out]; unfold findW; rw [HBK.out, hf]; rfl
    subst hRw
    subst hRe
    clear hf
    go_wp2_with (first | (refine wpList_store_rowA rfl _ _ _ rfl w.heap.size R rfl (by rw [← HLIT.out]; rfl) _ _ HXr.out HZS.out rfl HZO.out ?_) | fail)
    intro wf hwf
    go_wp2
    refine bodyPost_ret (v := .tuple #[.agg R, .int .i64 3]) (WireT.results_cell_slot rfl _ _ w.heap.size 66 R (0, 0) _ rfl (by rw [hwf.out]; exact setRow_at HXr.out) Tryz.underlying66 rfl HZS.out rfl) rfl ⟨rfl, by rw [hwf.out]; exact below_row HBr.out (Nat.le_refl _) _⟩
end Go.Proofs.YtkcikadgnnjjjaaGreatDoor.RkI
