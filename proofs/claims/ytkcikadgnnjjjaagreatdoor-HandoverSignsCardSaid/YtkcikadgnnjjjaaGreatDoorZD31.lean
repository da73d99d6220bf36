/-
  WHAT IS PROVED: how any entry, head, or deal is signed by any ring, by the program. how any entry, head, or deal is signed by any ring, by the document. whether any entry, head, or deal is verified by any book, by the program. which rows deals among the arguments are, and what the listed variables hold. plain facts of one deal, as it is signed at the first place of the key of seed "s" and height one. what the program's functions answer at the inputs of the statements' own check of the deals. Condition: what each theorem names.
-/
import Derived.Test.YtkcikadgnnjjjaaGreatDoorS0
import Derived.Test.YtkcikadgnnjjjaaGreatDoorZEHD24
import Derived.Test.YtkcikadgnnjjjaaGreatDoorZED25
import Derived.Test.YtkcikadgnnjjjaaGreatDoorZD30
set_option linter.unusedVariables false
set_option linter.unusedSimpArgs false
set_option maxRecDepth 100000
set_option maxHeartbeats 4000000
namespace Go.Proofs.YtkcikadgnnjjjaaGreatDoor.EgS
open Go Go.RowKit Go.Shelf OctetS IdentS EntS OctP OctQ OctG IdentP EntP EventC ShaA Steps KeyA KeyS KeyI KeyK TreeA WireS WireT WireD DlV
theorem deal_sign (w : World) (R : Nat) (sd : ByteArray) (h nx : Nat) (v : Value) (x : H32) (hsd : sd.size ≤ 64) (hh : h ≤ 7) (hn0 : nx ≤ 2 ^ h) (hr0 : w.heap[R]? = some (.cells (ringA sd h nx v x) 75 (0, 0)))
 (hv0 : Sl w v 32 (2 ^ h) ((leavesH (bl sd) (2 ^ h)).flatMap H32.cs)) (hvb : ∀ k, v.ownBlock = some k → k < w.heap.size) (hk : VarsH w)
 (p : Array Value) (k : Int) (r : ByteArray) (ep ix hub next : Int) (s : ByteArray) (hp : p = dlA k r ep ix hub next s) (hv : VarsD w) (hk0 : 0 ≤ k) (hk2 : k ≤ 255) (hr : r.size ≤ 140737488351232) (hs : s.size ≤ maxLen) (S : ByteArray × Nat × Int) (hS0 : S = signS sd h nx (checkD (dlOf k r ep ix hub next s)) (DlS.text (dlOf k r ep ix hub next s)) s) :
 Calls Tryz.prog 23 #[.pointer (some ⟨R, 0, none⟩), .agg p] w fun e' w' => e' = .returned (.tuple #[.agg (dlA k r ep ix hub next S.1), .int .i64 S.2.2]) ∧
  w'.heap[R]? = some (.cells (ringA sd h S.2.1 v x) 75 (0, 0)) ∧ Ext (fun k => k = R) w w' := by
 unfold signS at hS0
 by_cases hyes : checkD (dlOf k r ep ix hub next s) = true ∧ nx < 2 ^ h
 ·obtain ⟨hc, hn⟩ := hyes
  rw [if_pos hc, if_neg (by omega)] at hS0
  subst hS0
  exact DlT.P_Sign w R sd h nx v x hsd hh hn hr0 hv0 hvb hk p k r ep ix hub next s hp hv hk0 hk2 hr hs hc
 have hT := fun w (hv : VarsD w) => DlT.P_Text w p k r ep ix hub next s hp hv hk0 hk2 hr hs
 unfold DlS.textOf at hT
 have hpi : (Tryz.prog.info? 56).map (·.size) = some p.size := by rw [show p.size = 7 by rw [hp]; rfl]; kernel_rfl
 have HPN := lh (show 7 = p.size from (show p.size = 7 by rw [hp]; rfl).symm)
 have HPO := lh (show p.all (·.oneCell') = true by rw [hp]; exact by simp [dlA, Value.oneCell'])
 have HI := lh hpi
 obtain ⟨Z, hZ⟩ : ∃ Z : Array Value, Z = #[.int .u8 0, .string ⟨#[]⟩, .int .i64 0, .int .i64 0, .int .i64 0, .int .i64 0, .string ⟨#[]⟩] := ⟨_, rfl⟩
 have HLIT : Hid ((#[.int .u8 0, .string ⟨#[]⟩, .int .i64 0, .int .i64 0, .int .i64 0, .int .i64 0, .string ⟨#[]⟩] : Array Value) = Z) := lh hZ.symm
 have HZN : Hid (Z.size = 7) := lh (by rw [hZ]; rfl)
 have hlR := lt_row hr0
 have heq := hp
 obtain ⟨w0, hw0⟩ := nXe ((w.alloc (.cells p 56)).alloc (.cells Z 56))
 have hb0 : Below w.heap.size w w0 := by rw [hw0]; exact ((Below.refl _ w).alloc (Nat.le_refl _) _).alloc (by simp) _
 have HX0 := lh (show w0.heap[w.heap.size]? = some (.cells p 56 (0, 0)) by rw [hw0]; exact heap_at (heap_new _ _) _)
 have HZ0 := lh (show w0.heap[w.heap.size + 1]? = some (.cells Z 56 (0, 0)) by rw [hw0]; exact heap_new' _ (by simp))
 have HBL0 := lh hb0
 have HW0 := lh hw0
 have HV0 := lh (hv.below hb0)
 have HR0 := lh hr0
 cases hc : checkD (dlOf k r ep ix hub next s)
 ·rw [hc, if_neg (by simp)] at hS0
  rw [hc, if_neg (by simp)] at hT
  subst hS0
  show Calls _ _ _ _ fun e' w' => e' = .returned (.tuple #[.agg (dlA k r ep ix hub next s), .int .i64 2]) ∧ w'.heap[R]? = some (.cells (ringA sd h nx v x) 75 (0, 0)) ∧ Ext (fun k => k = R) w w'
  rw [← heq]
  have HT := lh hT
  clear hT hc hp hr hs hpi hb0 hv hw0 hv0 hr0 hk hvb hZ heq hyes
  go_enter Tryz.func23, Tryz.ntmps23
  go_wp2_with (first | (rw [HLIT.out, ← HW0.out]; refine wpList_load_row rfl _ _ rfl w.heap.size rfl _ p (0, 0) _ HX0.out Tryz.underlying56 rfl HI.out ?_) | fail)
  refine (HT.out w0 HV0.out).mono ?_
  rintro e' w1 ⟨rfl, hb⟩
  have HBL1 := tbB HBL0 hb
  have HX1 := kpB hb HX0
  have HZ1 := kpB hb HZ0
  clear hb
  unfold whyOf
  go_wp2_with (first | (refine wpList_load_row rfl _ _ rfl w.heap.size rfl _ p (0, 0) _ HX1.out Tryz.underlying56 rfl HI.out ?_) | (refine wpList_store_rowA rfl _ _ _ rfl (w.heap.size + 1) p rfl rfl _ _ HZ1.out HI.out (by rw [HZN.out]; exact HPN.out) HPO.out ?_) | fail)
  intro wf hwf
  go_wp2
  refine bodyPost_ret (v := .tuple #[.agg p, .int .i64 2]) (WireT.results_cell_slot rfl _ _ (w.heap.size + 1) 56 p (0, 0) _ rfl (by rw [hwf.out]; exact setRow_at HZ1.out) Tryz.underlying56 rfl HI.out rfl) rfl ⟨rfl, ?_, ?_⟩
  ·rw [hwf.out, setRow_far _ (by omega)]
   exact (HBL1.out.block _ hlR).trans HR0.out
  ·rw [hwf.out]
   exact (Ext.of_below HBL1.out).grown (row := some (w.heap.size + 1)) (EntW.grownBy_setRow _ _ _) (fun k hk => by cases hk; exact .inr (by omega))
 ·have hnx : nx = 2 ^ h := by
   have : ¬ nx < 2 ^ h := fun h1 => hyes ⟨hc, h1⟩
   omega
  rw [hc, if_pos rfl, if_pos hnx] at hS0
  rw [hc, if_pos rfl] at hT
  subst hS0
  show Calls _ _ _ _ fun e' w' => e' = .returned (.tuple #[.agg (dlA k r ep ix hub next s), .int .i64 10]) ∧ w'.heap[R]? = some (.cells (ringA sd h nx v x) 75 (0, 0)) ∧ Ext (fun k => k = R) w w'
  rw [← heq]
  obtain ⟨Tx, hTx⟩ := nXe (bsOf (DlS.text (dlOf k r ep ix hub next s)))
  rw [← hTx] at hT
  have hS := fun w' (hb : Below w.heap.size w w') => PkS.Sign_over w' R sd Tx h v x _ hh (by rw [← hnx]; exact (hb.block _ hlR).trans hr0) (hv0.below hb)
  have HT := lh hT
  have HS := lh hS
  clear hT hS hTx hc hp hr hs hpi hb0 hv hw0 hv0 hr0 hk hvb hZ heq hyes hnx
  go_enter Tryz.func23, Tryz.ntmps23
  go_wp2_with (first | (rw [HLIT.out, ← HW0.out]; refine wpList_load_row rfl _ _ rfl w.heap.size rfl _ p (0, 0) _ HX0.out Tryz.underlying56 rfl HI.out ?_) | fail)
  refine (HT.out w0 HV0.out).mono ?_
  rintro e' w1 ⟨rfl, hb⟩
  have HBL1 := tbB HBL0 hb
  have HX1 := kpB hb HX0
  have HZ1 := kpB hb HZ0
  clear hb
  unfold whyOf
  go_wp2_with fail
  refine (HS.out w1 HBL1.out).mono ?_
  rintro e' w2 ⟨rfl, hb⟩
  have HBL2 := tbB HBL1 hb
  have HX2 := kpB hb HX1
  have HZ2 := kpB hb HZ1
  clear hb
  go_wp2_with (first | (refine wpList_load_row rfl _ _ rfl w.heap.size rfl _ p (0, 0) _ HX2.out Tryz.underlying56 rfl HI.out ?_) | (refine wpList_store_rowA rfl _ _ _ rfl (w.heap.size + 1) p rfl rfl _ _ HZ2.out HI.out (by rw [HZN.out]; exact HPN.out) HPO.out ?_) | fail)
  intro wf hwf
  go_wp2
  refine bodyPost_ret (v := .tuple #[.agg p, .int .i64 10]) (WireT.results_cell_slot rfl _ _ (w.heap.size + 1) 56 p (0, 0) _ rfl (by rw [hwf.out]; exact setRow_at HZ2.out) Tryz.underlying56 rfl HI.out rfl) rfl ⟨rfl, ?_, ?_⟩
  ·rw [hwf.out, setRow_far _ (by omega)]
   exact (HBL2.out.block _ hlR).trans HR0.out
  ·rw [hwf.out]
   exact (Ext.of_below HBL2.out).grown (row := some (w.heap.size + 1)) (EntW.grownBy_setRow _ _ _) (fun k hk => by cases hk; exact .inr (by omega))
end Go.Proofs.YtkcikadgnnjjjaaGreatDoor.EgS
namespace Go.Proofs.YtkcikadgnnjjjaaGreatDoor.EgT
open Go Go.RowKit Go.Shelf OctetS IdentS EntS OctP OctQ OctG IdentP EntP EventC ShaA Steps KeyA KeyS KeyI KeyK TreeA RkM EgS WireS WireT WireD DlV
theorem deal2_sign (w : World) (sd : ByteArray) (h nx : Nat) (v : Value) (hsd : sd.size ≤ 64) (hh : h ≤ 7) (hn0 : nx ≤ 2 ^ h) (hv0 : Sl w v 32 (2 ^ h) ((leavesH (bl sd) (2 ^ h)).flatMap H32.cs))
 (p : Array Value) (k : Int) (r : ByteArray) (ep ix hub next : Int) (s : ByteArray) (hp : p = dlA k r ep ix hub next s) (hv : VarsD w) (hk0 : 0 ≤ k) (hk2 : k ≤ 255) (hr : r.size ≤ 140737488351232) (hs : s.size ≤ maxLen) (S : ByteArray × Nat × Int) (hS0 : S = signS sd h nx (checkD (dlOf k r ep ix hub next s)) (DlS.text (dlOf k r ep ix hub next s)) s) :
 Calls Tryz.prog 24 #[.agg (ring2 sd h nx v), .agg p] w (KeyA.RB (.tuple #[.agg (ring2 sd h S.2.1 v), .agg (dlA k r ep ix hub next S.1), .int .i64 S.2.2]) w) := by
 unfold signS at hS0
 have hT := fun w (hv : VarsD w) => DlT.R_Text w p k r ep ix hub next s hp hv hk0 hk2 hr hs
 unfold DlS.textOf at hT
 obtain ⟨va, vcap, rfl, _, _⟩ := hv0.form
 have HpS := lh (show (Tryz.prog.info? 56).map (·.size) = some p.size by rw [show p.size = 7 by rw [hp]; rfl]; kernel_rfl)
 have HpN := lh (show 7 = p.size from (show p.size = 7 by rw [hp]; rfl).symm)
 have HpO := lh (show p.all (·.oneCell') = true by rw [hp]; exact by simp [dlA, Value.oneCell'])
 obtain ⟨E, hE⟩ := nXe (ring2 sd h nx (.slice va (2 ^ h) vcap))
 have HES := lh (show (Tryz.prog.info? 40).map (·.size) = some E.size by rw [hE]; kernel_rfl)
 have HEN := lh (show 4 = E.size by rw [hE]; rfl)
 have HEO := lh (show E.all (·.oneCell') = true by rw [hE]; simp [ring2, Value.oneCell'])
 obtain ⟨Z, hZ⟩ : ∃ Z : Array Value, Z = #[.int .u8 0, .string ⟨#[]⟩, .int .i64 0, .int .i64 0, .int .i64 0, .int .i64 0, .string ⟨#[]⟩] := ⟨_, rfl⟩
 have HLIT : Hid ((#[.int .u8 0, .string ⟨#[]⟩, .int .i64 0, .int .i64 0, .int .i64 0, .int .i64 0, .string ⟨#[]⟩] : Array Value) = Z) := lh hZ.symm
 have HZN : Hid (Z.size = 7) := lh (by rw [hZ]; rfl)
 obtain ⟨Y, hY⟩ : ∃ Y : Array Value, Y = #[.string ⟨#[]⟩, .int .i64 0, .int .i64 0, .slice none 0 0] := ⟨_, rfl⟩
 have HLR : Hid ((#[.string ⟨#[]⟩, .int .i64 0, .int .i64 0, .slice none 0 0] : Array Value) = Y) := lh hY.symm
 have HYN : Hid (Y.size = 4) := lh (by rw [hY]; rfl)
 have heq := hp
 obtain ⟨w0, hw0⟩ := nXe ((((w.alloc (.cells E 40)).alloc (.cells p 56)).alloc (.cells Y 40)).alloc (.cells Z 56))
 have hb0 : Below w.heap.size w w0 := by rw [hw0]; exact ((((Below.refl _ w).alloc (Nat.le_refl _) _).alloc (by simp) _).alloc (by simp; omega) _).alloc (by simp; omega) _
 have HE0 := lh (show w0.heap[w.heap.size]? = some (.cells E 40 (0, 0)) by rw [hw0]; exact heap_at (heap_at (heap_at (heap_new _ _) _) _) _)
 have HP0 := lh (show w0.heap[w.heap.size + 1]? = some (.cells p 56 (0, 0)) by rw [hw0]; exact heap_at (heap_at (heap_new' _ (by simp)) _) _)
 have HY0 := lh (show w0.heap[w.heap.size + 2]? = some (.cells Y 40 (0, 0)) by rw [hw0]; exact heap_at (heap_new' _ (by simp)) _)
 have HZ0 := lh (show w0.heap[w.heap.size + 3]? = some (.cells Z 56 (0, 0)) by rw [hw0]; exact heap_new' _ (by simp))
 have HB0 := lh hb0
 have HW0 := lh hw0
 have HV0 := lh (hv.below hb0)
 have hsl := fun w' (hb : Below w.heap.size w w') => hv0.below hb
 cases hc : checkD (dlOf k r ep ix hub next s)
 ·rw [hc, if_neg (by simp)] at hS0
  rw [hc, if_neg (by simp)] at hT
  subst hS0
  show Calls _ _ _ _ (KeyA.RB (.tuple #[.agg (ring2 sd h nx (.slice va (2 ^ h) vcap)), .agg (dlA k r ep ix hub next s), .int .i64 2]) w)
  rw [← heq, ← hE]
  have HT := lh hT
  clear hT hc hp hr hs hv hb0 hw0 hv0 hZ hY hE heq hsl
  go_enter Tryz.func24, Tryz.ntmps24
  go_wp2_with (first | (rw [HLR.out, HLIT.out, ← HW0.out]; refine wpList_load_row rfl _ _ rfl (w.heap.size + 1) rfl _ p (0, 0) _ HP0.out Tryz.underlying56 rfl HpS.out ?_) | fail)
  refine (HT.out w0 HV0.out).mono ?_
  rintro e' w1 ⟨rfl, hb⟩
  have HE1 := kpB hb HE0
  have HP1 := kpB hb HP0
  have HY1 := kpB hb HY0
  have HZ1 := kpB hb HZ0
  have HB1 := tbB HB0 hb
  clear hb
  unfold whyOf
  go_wp2
  refine wp_region_noPanic ?_
  refine wp_region_held (S := (fun W => W.heap[w.heap.size]? = some (.cells E 40 (0, 0)) ∧ W.heap[(w.heap.size + 1)]? = some (.cells p 56 (0, 0)))) (by kernel_rfl) ?_
  change wpAnyH _ _ _ _ _ _ _ _ (World.drew w1)
  have hS0 : (World.drew w1).heap[w.heap.size]? = some (.cells E 40 (0, 0)) ∧ (World.drew w1).heap[(w.heap.size + 1)]? = some (.cells p 56 (0, 0)) := ⟨HE1.out, HP1.out⟩
  refine tkH (i := 0) (v := .agg E) rfl (.inl ⟨by rfl, fun wq hSw => EqHash.exec_load_row 40 _ rfl _ rfl hSw.1 Tryz.underlying40 rfl HES.out⟩) hS0 ?_
  simp only [Act.put, sxx]
  refine tkH (i := 1) (v := .agg p) rfl (.inl ⟨by rfl, fun wq hSw => EqHash.exec_load_row 56 _ rfl _ rfl hSw.2 Tryz.underlying56 rfl HpS.out⟩) hS0 ?_
  simp only [Act.put, sxx]
  refine tkH (i := 2) (v := ?_) rfl (.inl ⟨by rfl, ?_⟩) hS0 ?_
  rotate_left
  ·intro wq hSw
   go_simp
   rfl
  simp only [Act.put, sxx]
  refine aOne (r := 3) ?_
  refine WrC.wpOp_store_row rfl (by rfl) _ _ _ rfl (w.heap.size + 2) E rfl rfl _ _ HY1.out HES.out (by rw [HYN.out]; exact HEN.out) HEO.out ?_
  intro u1 hu1
  have hS1 : u1.heap[w.heap.size]? = some (.cells E 40 (0, 0)) ∧ u1.heap[(w.heap.size + 1)]? = some (.cells p 56 (0, 0)) := ⟨by rw [hu1.out, setRow_far _ (by omega)]; exact hS0.1, by rw [hu1.out, setRow_far _ (by omega)]; exact hS0.2⟩
  have HZ9 := lh (show u1.heap[w.heap.size + 3]? = some (.cells Z 56 (0, 0)) by rw [hu1.out, setRow_far _ (by omega)]; exact HZ1.out)
  have HY9 := lh (show u1.heap[w.heap.size + 2]? = some (.cells E 40 (0, 0)) by rw [hu1.out]; exact setRow_at HY1.out)
  have HB9 := lh (show Below w.heap.size w u1 by rw [hu1.out]; exact below_row (HB1.out).drew (by omega) _)
  refine ⟨hS1, ?_⟩
  simp only [Act.put, sxx]
  refine aOne (r := 4) ?_
  refine WrC.wpOp_store_row rfl (by rfl) _ _ _ rfl (w.heap.size + 3) p rfl rfl _ _ HZ9.out HpS.out (by rw [HZN.out]; exact HpN.out) HpO.out ?_
  intro u2 hu2
  have hS2 : u2.heap[w.heap.size]? = some (.cells E 40 (0, 0)) ∧ u2.heap[(w.heap.size + 1)]? = some (.cells p 56 (0, 0)) := ⟨by rw [hu2.out, setRow_far _ (by omega)]; exact hS1.1, by rw [hu2.out, setRow_far _ (by omega)]; exact hS1.2⟩
  have HZ8 := lh (show u2.heap[w.heap.size + 3]? = some (.cells p 56 (0, 0)) by rw [hu2.out]; exact setRow_at HZ9.out)
  have HY8 := lh (show u2.heap[w.heap.size + 2]? = some (.cells E 40 (0, 0)) by rw [hu2.out, setRow_far _ (by omega)]; exact HY9.out)
  have HB8 := lh (show Below w.heap.size w u2 by rw [hu2.out]; exact below_row HB9.out (by omega) _)
  clear hu1 hu2
  refine ⟨hS2, ?_⟩
  simp only [Act.put, sxx]
  refine tkH (i := 5) (v := ?_) rfl (.inl ⟨by rfl, ?_⟩) hS2 ?_
  rotate_left
  ·intro wq _
   go_simp
   rfl
  simp only [Act.put, sxx]
  refine wpAnyH_done (by kernel_rfl) (NoPanic.normal ?_) _
  go_wp2
  refine bodyPost_ret (v := .tuple #[.agg E, .agg p, .int .i64 2]) (results_cell2_slot rfl _ _ (w.heap.size + 2) (w.heap.size + 3) 40 56 E p (0, 0) (0, 0) _ _ rfl HY8.out Tryz.underlying40 rfl HES.out rfl HZ8.out Tryz.underlying56 rfl HpS.out rfl) rfl ⟨rfl, HB8.out⟩
 ·rw [hc, if_pos rfl] at hS0 hT
  have hTz : (bsOf (DlS.text (dlOf k r ep ix hub next s))).size ≤ 140737488351232 := by rw [size_bsOf]; have := DlT.dl_len (DlS.check_iff.1 hc); omega
  have hTb : bl (bsOf (DlS.text (dlOf k r ep ix hub next s))) = DlS.text (dlOf k r ep ix hub next s) := bl_bsOf _
  obtain ⟨Tx, hTx⟩ := nXe (bsOf (DlS.text (dlOf k r ep ix hub next s)))
  rw [← hTx] at hT hTz hTb
  by_cases hn : nx = 2 ^ h
  ·rw [if_pos hn] at hS0
   subst hS0
   show Calls _ _ _ _ (KeyA.RB (.tuple #[.agg (ring2 sd h nx (.slice va (2 ^ h) vcap)), .agg (dlA k r ep ix hub next s), .int .i64 10]) w)
   have hS : ∀ w, Calls Tryz.prog 41 #[.agg E, .string Tx] w (KeyA.RB (.tuple #[.agg E, .string ⟨#[]⟩, .int .i64 10]) w) := fun w => by
        rw [hE, hn]
        exact RkN.Sign2_over w sd Tx h (.slice va (2 ^ h) vcap) hh rfl
   rw [← heq, ← hE]
   have HT := lh hT
   have HS := lh hS
   clear hT hS hTx hTz hTb hn hc hp hr hs hv hb0 hw0 hv0 hZ hY hE heq hsl
   go_enter Tryz.func24, Tryz.ntmps24
   go_wp2_with (first | (rw [HLR.out, HLIT.out, ← HW0.out]; refine wpList_load_row rfl _ _ rfl (w.heap.size + 1) rfl _ p (0, 0) _ HP0.out Tryz.underlying56 rfl HpS.out ?_) | fail)
   refine (HT.out w0 HV0.out).mono ?_
   rintro e' w1 ⟨rfl, hb⟩
   have HE1 := kpB hb HE0
   have HP1 := kpB hb HP0
   have HY1 := kpB hb HY0
   have HZ1 := kpB hb HZ0
   have HB1 := tbB HB0 hb
   clear hb
   unfold whyOf
   go_wp2_with (first | (refine wpList_load_row rfl _ _ rfl w.heap.size rfl _ E (0, 0) _ HE1.out Tryz.underlying40 rfl HES.out ?_) | fail)
   refine (HS.out w1).mono ?_
   rintro e' w2 ⟨rfl, hb⟩
   have HE2 := kpB hb HE1
   have HP2 := kpB hb HP1
   have HY2 := kpB hb HY1
   have HZ2 := kpB hb HZ1
   have HB2 := tbB HB1 hb
   clear hb
   go_wp2_with (first | (refine wpList_store_rowA rfl _ _ _ rfl w2.heap.size E rfl rfl _ _ (heap_new _ _) HES.out (by rw [← HEN.out]; rfl) HEO.out ?_) | fail)
   intro w3 hw3
   have hb : Below w2.heap.size w2 w3 := by rw [hw3.out]; exact below_row bAx (Nat.le_refl _) _
   have HE3 := kpB hb HE2
   have HP3 := kpB hb HP2
   have HY3 := kpB hb HY2
   have HZ3 := kpB hb HZ2
   have HB3 := tbB HB2 hb
   clear hb hw3
   go_wp2
   refine wp_region_noPanic ?_
   refine wp_region_held (S := (fun W => W.heap[w.heap.size]? = some (.cells E 40 (0, 0)) ∧ W.heap[(w.heap.size + 1)]? = some (.cells p 56 (0, 0)))) (by kernel_rfl) ?_
   change wpAnyH _ _ _ _ _ _ _ _ (World.drew w3)
   have hS0 : (World.drew w3).heap[w.heap.size]? = some (.cells E 40 (0, 0)) ∧ (World.drew w3).heap[(w.heap.size + 1)]? = some (.cells p 56 (0, 0)) := ⟨HE3.out, HP3.out⟩
   refine tkH (i := 0) (v := .agg E) rfl (.inl ⟨by rfl, fun wq hSw => EqHash.exec_load_row 40 _ rfl _ rfl hSw.1 Tryz.underlying40 rfl HES.out⟩) hS0 ?_
   simp only [Act.put, sxx]
   refine tkH (i := 1) (v := .agg p) rfl (.inl ⟨by rfl, fun wq hSw => EqHash.exec_load_row 56 _ rfl _ rfl hSw.2 Tryz.underlying56 rfl HpS.out⟩) hS0 ?_
   simp only [Act.put, sxx]
   refine tkH (i := 2) (v := ?_) rfl (.inl ⟨by rfl, ?_⟩) hS0 ?_
   rotate_left
   ·intro wq hSw
    go_simp
    rfl
   simp only [Act.put, sxx]
   refine aOne (r := 3) ?_
   refine WrC.wpOp_store_row rfl (by rfl) _ _ _ rfl (w.heap.size + 2) E rfl rfl _ _ HY3.out HES.out (by rw [HYN.out]; exact HEN.out) HEO.out ?_
   intro u1 hu1
   have hS1 : u1.heap[w.heap.size]? = some (.cells E 40 (0, 0)) ∧ u1.heap[(w.heap.size + 1)]? = some (.cells p 56 (0, 0)) := ⟨by rw [hu1.out, setRow_far _ (by omega)]; exact hS0.1, by rw [hu1.out, setRow_far _ (by omega)]; exact hS0.2⟩
   have HZ9 := lh (show u1.heap[w.heap.size + 3]? = some (.cells Z 56 (0, 0)) by rw [hu1.out, setRow_far _ (by omega)]; exact HZ3.out)
   have HY9 := lh (show u1.heap[w.heap.size + 2]? = some (.cells E 40 (0, 0)) by rw [hu1.out]; exact setRow_at HY3.out)
   have HB9 := lh (show Below w.heap.size w u1 by rw [hu1.out]; exact below_row (HB3.out).drew (by omega) _)
   refine ⟨hS1, ?_⟩
   simp only [Act.put, sxx]
   refine aOne (r := 4) ?_
   refine WrC.wpOp_store_row rfl (by rfl) _ _ _ rfl (w.heap.size + 3) p rfl rfl _ _ HZ9.out HpS.out (by rw [HZN.out]; exact HpN.out) HpO.out ?_
   intro u2 hu2
   have hS2 : u2.heap[w.heap.size]? = some (.cells E 40 (0, 0)) ∧ u2.heap[(w.heap.size + 1)]? = some (.cells p 56 (0, 0)) := ⟨by rw [hu2.out, setRow_far _ (by omega)]; exact hS1.1, by rw [hu2.out, setRow_far _ (by omega)]; exact hS1.2⟩
   have HZ8 := lh (show u2.heap[w.heap.size + 3]? = some (.cells p 56 (0, 0)) by rw [hu2.out]; exact setRow_at HZ9.out)
   have HY8 := lh (show u2.heap[w.heap.size + 2]? = some (.cells E 40 (0, 0)) by rw [hu2.out, setRow_far _ (by omega)]; exact HY9.out)
   have HB8 := lh (show Below w.heap.size w u2 by rw [hu2.out]; exact below_row HB9.out (by omega) _)
   clear hu1 hu2
   refine ⟨hS2, ?_⟩
   simp only [Act.put, sxx]
   refine tkH (i := 5) (v := ?_) rfl (.inl ⟨by rfl, ?_⟩) hS2 ?_
   rotate_left
   ·intro wq _
    go_simp
    rfl
   simp only [Act.put, sxx]
   refine wpAnyH_done (by kernel_rfl) (NoPanic.normal ?_) _
   go_wp2
   refine bodyPost_ret (v := .tuple #[.agg E, .agg p, .int .i64 10]) (results_cell2_slot rfl _ _ (w.heap.size + 2) (w.heap.size + 3) 40 56 E p (0, 0) (0, 0) _ _ rfl HY8.out Tryz.underlying40 rfl HES.out rfl HZ8.out Tryz.underlying56 rfl HpS.out rfl) rfl ⟨rfl, HB8.out⟩
  ·rw [if_neg hn] at hS0
   have hlt : nx < 2 ^ h := by omega
   obtain ⟨G, hG⟩ := nXe (bsOf (sigOf (bl sd) h nx (bl Tx)))
   rw [← hTb, ← hG] at hS0
   subst hS0
   show Calls _ _ _ _ (KeyA.RB (.tuple #[.agg (ring2 sd h (nx + 1 : Nat) (.slice va (2 ^ h) vcap)), .agg (dlA k r ep ix hub next G), .int .i64 0]) w)
   have hS := fun w' (hb : Below w.heap.size w w') => RkO.Sign2_ok w' sd Tx h nx (.slice va (2 ^ h) vcap) hsd hTz hh hlt (hsl w' hb)
   obtain ⟨E2, hE2⟩ := nXe (ring2 sd h (nx + 1 : Nat) (.slice va (2 ^ h) vcap))
   have HE2S := lh (show (Tryz.prog.info? 40).map (·.size) = some E2.size by rw [hE2]; kernel_rfl)
   have HE2N := lh (show 4 = E2.size by rw [hE2]; rfl)
   have HE2O := lh (show E2.all (·.oneCell') = true by rw [hE2]; simp [ring2, Value.oneCell'])
   obtain ⟨Q, hQ⟩ := nXe (dlA k r ep ix hub next G)
   have hset : p.setIfInBounds 6 (.string G) = Q := by rw [heq, hQ]; exact rfl
   have HQN := lh (show 7 = Q.size by rw [← hset, Array.size_setIfInBounds]; exact HpN.out)
   have HQS := lh (show (Tryz.prog.info? 56).map (·.size) = some Q.size by rw [← HQN.out, HpN.out]; exact HpS.out)
   have HQO := lh (show Q.all (·.oneCell') = true by rw [hQ]; exact by simp [dlA, Value.oneCell'])
   have HC := lh (show p[6]? = some (.string s) by rw [hp]; rfl)
   have Hset := lh hset
   rw [← hG, ← hE, ← hE2] at hS
   rw [← hE, ← hE2, ← hQ]
   have HT := lh hT
   have HS := lh hS
   clear hT hS hTx hTz hTb hn hlt hG hE2 hQ hset hc hp hr hs hv hb0 hw0 hv0 hZ hY hE heq hsl
   go_enter Tryz.func24, Tryz.ntmps24
   go_wp2_with (first | (rw [HLR.out, HLIT.out, ← HW0.out]; refine wpList_load_row rfl _ _ rfl (w.heap.size + 1) rfl _ p (0, 0) _ HP0.out Tryz.underlying56 rfl HpS.out ?_) | fail)
   refine (HT.out w0 HV0.out).mono ?_
   rintro e' w1 ⟨rfl, hb⟩
   have HE1 := kpB hb HE0
   have HP1 := kpB hb HP0
   have HY1 := kpB hb HY0
   have HZ1 := kpB hb HZ0
   have HB1 := tbB HB0 hb
   clear hb
   unfold whyOf
   go_wp2_with (first | (refine wpList_load_row rfl _ _ rfl w.heap.size rfl _ E (0, 0) _ HE1.out Tryz.underlying40 rfl HES.out ?_) | fail)
   refine (HS.out w1 HB1.out).mono ?_
   rintro e' w2 ⟨rfl, hb⟩
   have HE2 := kpB hb HE1
   have HP2 := kpB hb HP1
   have HY2 := kpB hb HY1
   have HZ2 := kpB hb HZ1
   have HB2 := tbB HB1 hb
   clear hb
   go_wp2_with (first | (refine wpList_store_rowA rfl _ _ _ rfl w2.heap.size E2 rfl rfl _ _ (heap_new _ _) HE2S.out (by rw [← HE2N.out]; rfl) HE2O.out ?_) | fail)
   intro w3 hw3
   have hb : Below w2.heap.size w2 w3 := by rw [hw3.out]; exact below_row bAx (Nat.le_refl _) _
   have HD3 := lh (show w3.heap[w2.heap.size]? = some (.cells E2 40 (0, 0)) by rw [hw3.out]; exact setRow_at (heap_new _ _))
   have HE3 := kpB hb HE2
   have HP3 := kpB hb HP2
   have HY3 := kpB hb HY2
   have HZ3 := kpB hb HZ2
   have HB3 := tbB HB2 hb
   obtain ⟨g, hg⟩ := nXe (w2.heap.size)
   have hgw : w.heap.size + 3 < g := by rw [hg]; exact lt_row HZ2.out
   rw [← hg] at HD3 ⊢
   clear hb hw3 hg
   have c36 : w3.cell? ⟨w.heap.size + 1, 6, none⟩ = some (.string s) := (cell_row HP3.out).trans HC.out
   have f36 : w3.frozen? ⟨w.heap.size + 1, 6, none⟩ = false := frozen_row HP3.out
   obtain ⟨w4, hw4⟩ := nXe (w3.setCell ⟨w.heap.size + 1, 6, none⟩ (.string G))
   have HP4 := lh (show w4.heap[w.heap.size + 1]? = some (.cells Q 56 (0, 0)) by rw [hw4, ← Hset.out]; exact heap_setCell_same HP3.out _)
   have HD4 := lh (show w4.heap[g]? = some (.cells E2 40 (0, 0)) by rw [hw4]; exact (heap_setCell_far _ (by omega)).trans HD3.out)
   have HY4 := lh (show w4.heap[w.heap.size + 2]? = some (.cells Y 40 (0, 0)) by rw [hw4]; exact (heap_setCell_far _ (by omega)).trans HY3.out)
   have HZ4 := lh (show w4.heap[w.heap.size + 3]? = some (.cells Z 56 (0, 0)) by rw [hw4]; exact (heap_setCell_far _ (by omega)).trans HZ3.out)
   have HB4 := lh (show Below w.heap.size w w4 by rw [hw4]; exact HB3.out.setCell (p := ⟨w.heap.size + 1, 6, none⟩) (Nat.le_succ _) _)
   have HW4 := lh hw4
   clear hw4
   go_wp2_with fail
   rw [← HW4.out]
   refine wp_region_noPanic ?_
   refine wp_region_held (S := (fun W => W.heap[g]? = some (.cells E2 40 (0, 0)) ∧ W.heap[(w.heap.size + 1)]? = some (.cells Q 56 (0, 0)))) (by kernel_rfl) ?_
   change wpAnyH _ _ _ _ _ _ _ _ (World.drew w4)
   have hS0 : (World.drew w4).heap[g]? = some (.cells E2 40 (0, 0)) ∧ (World.drew w4).heap[(w.heap.size + 1)]? = some (.cells Q 56 (0, 0)) := ⟨HD4.out, HP4.out⟩
   refine tkH (i := 0) (v := .agg E2) rfl (.inl ⟨by rfl, fun wq hSw => EqHash.exec_load_row 40 _ rfl _ rfl hSw.1 Tryz.underlying40 rfl HE2S.out⟩) hS0 ?_
   simp only [Act.put, sxx]
   refine tkH (i := 1) (v := .agg Q) rfl (.inl ⟨by rfl, fun wq hSw => EqHash.exec_load_row 56 _ rfl _ rfl hSw.2 Tryz.underlying56 rfl HQS.out⟩) hS0 ?_
   simp only [Act.put, sxx]
   refine aOne (r := 2) ?_
   refine WrC.wpOp_store_row rfl (by rfl) _ _ _ rfl (w.heap.size + 2) E2 rfl rfl _ _ HY4.out HE2S.out (by rw [HYN.out]; exact HE2N.out) HE2O.out ?_
   intro u1 hu1
   have hS1 : u1.heap[g]? = some (.cells E2 40 (0, 0)) ∧ u1.heap[(w.heap.size + 1)]? = some (.cells Q 56 (0, 0)) := ⟨by rw [hu1.out, setRow_far _ (by omega)]; exact hS0.1, by rw [hu1.out, setRow_far _ (by omega)]; exact hS0.2⟩
   have HZ9 := lh (show u1.heap[w.heap.size + 3]? = some (.cells Z 56 (0, 0)) by rw [hu1.out, setRow_far _ (by omega)]; exact HZ4.out)
   have HY9 := lh (show u1.heap[w.heap.size + 2]? = some (.cells E2 40 (0, 0)) by rw [hu1.out]; exact setRow_at HY4.out)
   have HB9 := lh (show Below w.heap.size w u1 by rw [hu1.out]; exact below_row (HB4.out).drew (by omega) _)
   refine ⟨hS1, ?_⟩
   simp only [Act.put, sxx]
   refine aOne (r := 3) ?_
   refine WrC.wpOp_store_row rfl (by rfl) _ _ _ rfl (w.heap.size + 3) Q rfl rfl _ _ HZ9.out HQS.out (by rw [HZN.out]; exact HQN.out) HQO.out ?_
   intro u2 hu2
   have hS2 : u2.heap[g]? = some (.cells E2 40 (0, 0)) ∧ u2.heap[(w.heap.size + 1)]? = some (.cells Q 56 (0, 0)) := ⟨by rw [hu2.out, setRow_far _ (by omega)]; exact hS1.1, by rw [hu2.out, setRow_far _ (by omega)]; exact hS1.2⟩
   have HZ8 := lh (show u2.heap[w.heap.size + 3]? = some (.cells Q 56 (0, 0)) by rw [hu2.out]; exact setRow_at HZ9.out)
   have HY8 := lh (show u2.heap[w.heap.size + 2]? = some (.cells E2 40 (0, 0)) by rw [hu2.out, setRow_far _ (by omega)]; exact HY9.out)
   have HB8 := lh (show Below w.heap.size w u2 by rw [hu2.out]; exact below_row HB9.out (by omega) _)
   clear hu1 hu2
   refine ⟨hS2, ?_⟩
   simp only [Act.put, sxx]
   refine tkH (i := 4) (v := ?_) rfl (.inl ⟨by rfl, ?_⟩) hS2 ?_
   rotate_left
   ·intro wq _
    go_simp
    rfl
   simp only [Act.put, sxx]
   refine wpAnyH_done (by kernel_rfl) (NoPanic.normal ?_) _
   go_wp2
   refine bodyPost_ret (v := .tuple #[.agg E2, .agg Q, .int .i64 0]) (results_cell2_slot rfl _ _ (w.heap.size + 2) (w.heap.size + 3) 40 56 E2 Q (0, 0) (0, 0) _ _ rfl HY8.out Tryz.underlying40 rfl HE2S.out rfl HZ8.out Tryz.underlying56 rfl HQS.out rfl) rfl ⟨rfl, HB8.out⟩
end Go.Proofs.YtkcikadgnnjjjaaGreatDoor.EgT
namespace Go.Proofs.YtkcikadgnnjjjaaGreatDoor.EgV
open Go Go.RowKit Go.Shelf OctetS IdentS EntS OctP OctQ OctG IdentP EntP EventC ShaA Steps KeyA TreeA WireS WireT WireD DlV BookA BkF
theorem deal_any (w : World) (p : Array Value) (k : Int) (r : ByteArray) (ep ix hub next : Int) (s : ByteArray) (hp : p = dlA k r ep ix hub next s) (hv : VarsD w) (hk0 : 0 ≤ k) (hk2 : k ≤ 255) (hr : r.size ≤ 140737488351232) (hs : s.size ≤ maxLen) (v : Value) (L : List Gr') (hb : Sl w v 36 L.length (L.flatMap Gr'.cs)) (hk : VarsH w) :
 Calls Tryz.prog 21 #[v, .agg p] w (KeyA.RB (.int .i64 (if checkD (dlOf k r ep ix hub next s) = true then verifyB L (if k = 1 then hub else next) ix (DlS.text (dlOf k r ep ix hub next s)) (bl s) else 2)) w) := by
 cases hc : checkD (dlOf k r ep ix hub next s)
 ·rw [if_neg (by simp)]
  have hT := fun w (hv : VarsD w) => DlT.P_Text w p k r ep ix hub next s hp hv hk0 hk2 hr hs
  rw [hc] at hT
  obtain ⟨Tx, hTx⟩ := nXe (bsOf (DlS.textOf (dlOf k r ep ix hub next s)))
  rw [← hTx] at hT
  have hpi : (Tryz.prog.info? 56).map (·.size) = some p.size := by rw [show p.size = 7 by rw [hp]; rfl]; kernel_rfl
  have HI := lh hpi
  obtain ⟨w0, hw0⟩ := nXe (w.alloc (.cells p 56))
  have hb0 : Below w.heap.size w w0 := by rw [hw0]; exact (Below.refl _ w).alloc (Nat.le_refl _) _
  have HX0 := lh (show w0.heap[w.heap.size]? = some (.cells p 56 (0, 0)) by rw [hw0]; exact heap_new _ _)
  have HBL0 := lh hb0
  have HW0 := lh hw0
  have HV0 := lh (hv.below hb0)
  have HT := lh hT
  clear hT hTx hc hw0 hb0 hp hv hr hs hpi hk hb
  go_enter Tryz.func21, Tryz.ntmps21
  go_wp2_with (first | (rw [← HW0.out]; refine wpList_load_row rfl _ _ rfl w.heap.size rfl _ p (0, 0) _ HX0.out Tryz.underlying56 rfl HI.out ?_) | fail)
  refine (HT.out w0 HV0.out).mono ?_
  rintro e' w1 ⟨rfl, hb⟩
  have HBL1 := tbB HBL0 hb
  clear hb
  unfold whyOf
  go_wp2
  go_ret
  exact ⟨rfl, HBL1.out⟩
 ·rw [if_pos rfl]
  refine DlT.P_Verify w p k r ep ix hub next s hp hv hk0 hk2 hr hs hc v _ (fun w' hw => ?_)
  have h := Verify_ok w' v L ((if k = 1 then hub else next)) ix (bsOf ((DlS.text (dlOf k r ep ix hub next s)))) s (hb.below hw) (by rw [size_bsOf]; have := DlT.dl_len (DlS.check_iff.1 hc); omega) hs (hk.below hw)
  rw [bl_bsOf] at h
  exact h
end Go.Proofs.YtkcikadgnnjjjaaGreatDoor.EgV
namespace Go.Proofs.YtkcikadgnnjjjaaGreatDoor.LaidK
open Go Go.ChangeShapes Go.WideShapes Go.RowKit IdentP ShaA EntP WireT DlV
theorem varsD_of {W : World} {a b c : String × DataW Unit} {rest : List (String × DataW Unit)} (h : laidMet Tryz.prog (a :: b :: c :: ("palaver/sha.k", Rows.laid_palaver_sha_k) :: ("palaver/sha.begin", Rows.laid_palaver_sha_begin) :: ("strconv.ErrRange", Rows.laid_strconv_ErrRange) :: ("strconv.ErrSyntax", Rows.laid_strconv_ErrSyntax) :: ("palaver/ident.signs", Rows.laid_palaver_ident_signs) :: ("palaver/handover.words", Rows.laid_palaver_handover_words) :: rest) W) : VarsD W ∧ VarsH W :=
 ⟨⟨(LaidI.varsE_of h).1, LaidW.deal_of h.tail.tail.tail.tail.tail.tail.tail.tail⟩, (LaidI.varsE_of h).2⟩
section
variable {H : Type} {enc : TypeId × Value → H} {w : World} {base : Nat} {spare : Nat → Bool} {held : Bool} {fuel : Nat} {cs : List Value} {x : DataW H × List MemPlace}
theorem flatDeal : flat Tryz.prog 4 56 = some [some (some .u8), none, some (some .i64), some (some .i64), some (some .i64), some (some .i64), none] := by kernel_rfl
theorem dl_of (h : DataW.trod enc Tryz.prog w base spare held fuel 56 cs = some x) :
 ∃ (k : Int) (r : ByteArray) (ep ix hub next : Int) (s : ByteArray), cs.toArray = dlA k r ep ix hub next s ∧ 0 ≤ k ∧ k ≤ 255 ∧ s.size ≤ maxLen ∧ x.1 = .agg [.lit (.int .u8 k), .lit (.string (bl r)), .lit (.int .i64 ep), .lit (.int .i64 ix), .lit (.int .i64 hub), .lit (.int .i64 next), .lit (.string (bl s))] := by
 have hS : Tryz.prog.underlying 56 = some (.struct (Tryz.prog.fieldsOf 56)) := by kernel_rfl
 have hF : Tryz.prog.fieldsOf 56 = #[⟨"Kind", 54, 0, false, "", "", 0⟩, ⟨"Room", 9, 1, false, "", "", 8⟩, ⟨"Epoch", 3, 2, false, "", "", 24⟩, ⟨"Index", 3, 3, false, "", "", 32⟩, ⟨"Hub", 3, 4, false, "", "", 40⟩, ⟨"Next", 3, 5, false, "", "", 48⟩, ⟨"Sig", 9, 6, false, "", "", 56⟩] := by kernel_rfl
 have u8 : Tryz.prog.underlying 54 = some (.int .u8) := by kernel_rfl
 have u64 : Tryz.prog.underlying 3 = some (.int .i64) := by kernel_rfl
 have c8 : Tryz.prog.cellsOf 54 = 1 := by kernel_rfl
 have c64 : Tryz.prog.cellsOf 3 = 1 := by kernel_rfl
 have cE : Tryz.prog.cellsOf 56 = 7 := by kernel_rfl
 obtain ⟨_, hkk⟩ := fits_of_trod 4 _ _ flatDeal _ _ _ h
 obtain ⟨v0, hv0, n0, rfl, hw0⟩ := hkk 0 (some (some .u8)) rfl
 have hu := LaidW.u8_of hw0
 rw [hF] at hS
 obtain ⟨xs, n, rfl, hx, hl, hn, hel⟩ := DataW.trod_struct hS h
 rw [cE] at hl
 match xs, hn with
 | [x0, x1, x2, x3, x4, x5, x6], _ =>
   obtain ⟨k, e0, d0⟩ := LaidE.field_int x0 u8 c8 (hel 0 _ rfl)
   obtain ⟨r, e1, d1, _⟩ := LaidE.field_str (y := none) x1 (hel 1 _ rfl)
   obtain ⟨ep, e2, d2⟩ := LaidE.field_int x2 u64 c64 (hel 2 _ rfl)
   obtain ⟨ix, e3, d3⟩ := LaidE.field_int x3 u64 c64 (hel 3 _ rfl)
   obtain ⟨hub, e4, d4⟩ := LaidE.field_int x4 u64 c64 (hel 4 _ rfl)
   obtain ⟨next, e5, d5⟩ := LaidE.field_int x5 u64 c64 (hel 5 _ rfl)
   obtain ⟨s, e6, d6, z6⟩ := LaidE.field_str (y := none) x6 (hel 6 _ rfl)
   have hk0 : k = n0 := by
    have e0' : cs[0]? = some (.int .u8 k) := e0
    rw [hv0] at e0'
    simpa using e0'.symm
   refine ⟨k, r, ep, ix, hub, next, s, ?_, by omega, by omega, z6, ?_⟩
   ·unfold dlA
    refine congrArg List.toArray ?_
    apply List.ext_getElem?
    intro i
    rcases i with _ | _ | _ | _ | _ | _ | _ | i
    ·exact e0
    ·exact e1
    ·exact e2
    ·exact e3
    ·exact e4
    ·exact e5
    ·exact e6
    ·rw [List.getElem?_eq_none (by omega), List.getElem?_eq_none (by simp)]
   ·rw [hx]
    simp only [List.map_cons, List.map_nil, d0, d1, d2, d3, d4, d5, d6]
end
end Go.Proofs.YtkcikadgnnjjjaaGreatDoor.LaidK
namespace Go.Proofs.YtkcikadgnnjjjaaGreatDoor.DlK
open OctetS IdentS EntS KeyS KeyN NSha EntK WireS WireT
set_option maxRecDepth 100000
def dl (k : Int) (s : List UInt8) : Dl := ⟨k, rm, 1, 5, 2, 1, s⟩
def TD1 : List UInt8 := OctetS.list (DlS.parts (dl 1 []))
def G : List UInt8 := sigOf [115] 1 0 TD1
theorem G_len : G.length = 1121 := by
 unfold G
 rw [sigOf_length (by decide)]
theorem G_head : (G.headD 0).toNat = 0 := by
 unfold G
 exact sigOf_head (by decide) (by decide) _ _
theorem G_le : G.length ≤ 8192 := by
 rw [G_len]
 omega
theorem right {k : Int} (hk : k = 1 ∨ k = 2) {s : List UInt8} (hs : s.length ≤ 8192) : DlS.Right (dl k s) := ⟨hk, room0, hs, (by decide : (0 : Int) ≤ 1), (by decide : (1 : Int) ≤ 4096), (by decide : (0 : Int) ≤ 5), (by decide : (5 : Int) ≤ 4096), (by decide : (0 : Int) ≤ 2), (by decide : (2 : Int) ≤ 63), (by decide : (0 : Int) ≤ 1), (by decide : (1 : Int) ≤ 63), (by decide : (2 : Int) ≠ 1)⟩
theorem text1 (s : List UInt8) : DlS.text (dl 1 s) = TD1 := rfl
theorem TD1_len : TD1.length ≤ 8192 := by decide +kernel
theorem check1 {k : Int} (hk : k = 1 ∨ k = 2) {s : List UInt8} (hs : s.length ≤ 8192) : checkD (dl k s) = true := DlS.check_iff.2 (right hk hs)
theorem bytes1 : DlS.bytesE (dl 1 G) = OctetS.list [TD1, G] := by
 unfold DlS.bytesE
 rw [text1]
 rfl
theorem fits1 : fits [TD1, G] = true := by
 have h := DlS.bytes_fits (right (k := 1) (.inl rfl) (s := G) G_le) (by rw [text1]; exact TD1_len)
 rw [text1] at h
 exact h
theorem parse1 : parseD (OctetS.list [TD1, G]) = some (dl 1 G) := by
 have h := DlS.parse_bytes (right (k := 1) (.inl rfl) (s := G) G_le) (by rw [text1]; exact TD1_len)
 rw [bytes1] at h
 exact h
theorem parse_more {l : List (List UInt8)} (h : fits l = true) (x : UInt8) : WireS.parseD (OctetS.list l ++ [x]) = none := by
 have h1 := getList_list h [x]
 have h2 : (all (OctetS.list l ++ [x])).2 = 6 := by
  unfold all
  rw [h1]
  simp
 unfold WireS.parseD
 rw [h2]
 simp
theorem climb1 : climbOf 1 TD1 G = rootOf [115] 1 := by
 have h := verify_sig (h := 1) (i := 0) (by decide) (by decide) [115] TD1
 unfold verify at h
 by_cases hb : sigB 1 (sigOf [115] 1 0 TD1) = true
 ·rw [if_pos hb] at h
  by_cases hc : climbOf 1 TD1 (sigOf [115] 1 0 TD1) = rootOf [115] 1
  ·exact hc
  ·rw [if_neg hc] at h
   cases h
 ·rw [if_neg hb] at h
  cases h
end Go.Proofs.YtkcikadgnnjjjaaGreatDoor.DlK
namespace Go.Proofs.YtkcikadgnnjjjaaGreatDoor.DlL
open Go Go.RowKit Go.Shelf OctetS IdentS EntS OctP OctG IdentP EntP EventC ShaA Steps KeyA KeyS KeyI KeyK TreeA EntK BookA EntL WireS WireT WireD DlV Lift
def gD : ByteArray := bsOf DlK.G
theorem gD_size : gD.size = 1121 := by
 unfold gD
 rw [size_bsOf, DlK.G_len]
theorem gD_z : gD.size ≤ maxLen := by
 rw [gD_size]
 unfold maxLen
 omega
theorem of_dl (k : Int) (s : List UInt8) : dlOf k rB 1 5 2 1 (bsOf s) = DlK.dl k s := by
 unfold dlOf rB DlK.dl
 rw [bl_bsOf, bl_bsOf]
def dA (k : Int) (s : ByteArray) : Array Value := dlA k rB 1 5 2 1 s
theorem check_n {k : Int} (h : k = 1 ∨ k = 2) : checkD (dlOf k rB 1 5 2 1 nB) = true := by
 rw [nB_of, of_dl]
 exact DlK.check1 h (by simp)
theorem check_1 {k : Int} (h : k = 1 ∨ k = 2) : checkD (dlOf k rB 1 5 2 1 gD) = true := by
 unfold gD
 rw [of_dl]
 exact DlK.check1 h DlK.G_le
theorem text_n : DlS.text (dlOf 1 rB 1 5 2 1 nB) = DlK.TD1 := by
 rw [nB_of, of_dl]
 exact DlK.text1 _
theorem text_1 : DlS.text (dlOf 1 rB 1 5 2 1 gD) = DlK.TD1 := by
 unfold gD
 rw [of_dl]
 exact DlK.text1 _
def sD : ByteArray := bsOf (OctetS.list [DlK.TD1, DlK.G])
theorem list_len2 : (OctetS.list [DlK.TD1, DlK.G]).length ≤ 20000 := by
 have h := EntX.flat_len [DlK.TD1, DlK.G] (fun t ht => by
  simp only [List.mem_cons, List.not_mem_nil, or_false] at ht
  rcases ht with rfl | rfl
  ·exact DlK.TD1_len
  ·exact DlK.G_le)
 have h5 := OctetS.num_length2 (n := 2) (by omega)
 have h2 : ([DlK.TD1, DlK.G].flatMap OctetS.text).length ≤ 8194 * 2 := h
 show (OctetS.num 2 ++ [DlK.TD1, DlK.G].flatMap OctetS.text).length ≤ 20000
 rw [List.length_append]
 omega
theorem sD_size : sD.size ≤ 20000 := by
 unfold sD
 rw [size_bsOf]
 exact list_len2
theorem Sign_s (w0 w : World) (R : Nat) (v : Value) (h : RingAt w0 w R sS 1 0 v) (hk : VarsH w) (hv : VarsD w) :
 Calls Tryz.prog 23 #[.pointer (some ⟨R, 0, none⟩), .agg (dA 1 nB)] w fun e' w' => e' = .returned (.tuple #[.agg (dA 1 gD), .int .i64 0]) ∧ RingAt w0 w' R sS 1 1 v ∧ Ext (fun k => k = R) w w' := by
 have h1 := DlT.P_Sign w R sS 1 0 v _ (by decide) (by decide) (by decide) h.row h.lv.sl (fun k hk => (h.lv.lt k hk).2) hk (dA 1 nB) 1 rB 1 5 2 1 nB rfl hv (by decide) (by decide) rB_z nB_z (check_n (.inl rfl))
 rw [text_n, sS_bl] at h1
 refine h1.mono ?_
 rintro e w' ⟨rfl, hr, hE⟩
 exact ⟨rfl, ⟨hr, h.lv.ext hE (fun k hk => by have := h.sep k hk; omega), h.ge, h.sep⟩, hE⟩
theorem Answer_1 (w : World) (hv : VarsD w) : Calls Tryz.prog 52 #[.agg (dA 1 gD)] w (RB (.tuple #[.agg (dA 2 nB), .int .i64 0]) w) := by
 have h := DlT.P_Answer w (dA 1 gD) 1 rB 1 5 2 1 gD rfl hv (by decide) (by decide) rB_z gD_z
 have hc := check_1 (k := 1) (.inl rfl)
 have ha : DlS.answerW (dlOf 1 rB 1 5 2 1 gD) = 0 := by
  unfold DlS.answerW
  rw [if_pos hc]
  rfl
 rw [ha] at h
 unfold DlT.ansA at h
 rw [if_pos ⟨hc, rfl⟩] at h
 exact h
theorem Answer_2 (w : World) (hv : VarsD w) : Calls Tryz.prog 52 #[.agg (dA 2 nB)] w (RB (.tuple #[.agg dlZ, .int .i64 11]) w) := by
 have h := DlT.P_Answer w (dA 2 nB) 2 rB 1 5 2 1 nB rfl hv (by decide) (by decide) rB_z nB_z
 have hc := check_n (k := 2) (.inr rfl)
 have ha : DlS.answerW (dlOf 2 rB 1 5 2 1 nB) = 11 := by
  unfold DlS.answerW
  rw [if_pos hc]
  rfl
 rw [ha] at h
 unfold DlT.ansA at h
 rw [if_neg (fun h => absurd h.2 (by decide))] at h
 exact h
theorem Bytes_s (w : World) (hv : VarsD w) : Calls Tryz.prog 53 #[.agg (dA 1 gD)] w (RB (.tuple #[.string sD, .int .i64 0]) w) := by
 have h := DlT.P_Bytes w (dA 1 gD) 1 rB 1 5 2 1 gD rfl hv (by decide) (by decide) rB_z gD_z
 have hb : DlS.bytesW (dlOf 1 rB 1 5 2 1 gD) = (OctetS.list [DlK.TD1, DlK.G], 0) := by
  rw [DlT.dbytes_ok, check_1 (.inl rfl), if_pos rfl, text_1, if_pos DlK.TD1_len]
  unfold gD
  rw [of_dl, DlK.bytes1]
 rw [hb] at h
 exact h
theorem Parse_s (w : World) (hv : VarsD w) : Calls Tryz.prog 54 #[.string sD] w (RB (.tuple #[.agg (dA 1 gD), .int .i64 0]) w) := by
 have h := WireD.d_Parse w sD (by have := sD_size; omega) hv
 have hp : WireS.parseD (bl sD) = some (DlK.dl 1 DlK.G) := by
  unfold sD
  rw [bl_bsOf]
  exact DlK.parse1
 rw [hp] at h
 exact h
theorem bl_snoc (s : ByteArray) : bl (s ++ ⟨#[33]⟩) = bl s ++ [33] := by simp [bl]
theorem size_snoc (s : ByteArray) : (s ++ ⟨#[33]⟩ : ByteArray).size = s.size + 1 := by
 rw [ByteArray.size_append]
 rfl
theorem Parse_more (w : World) (hv : VarsD w) : Calls Tryz.prog 54 #[.string (sD ++ ⟨#[33]⟩)] w (RB (.tuple #[.agg dlZ, .int .i64 6]) w) := by
 have h := WireD.d_Parse w (sD ++ ⟨#[33]⟩) (by rw [size_snoc]; have := sD_size; omega) hv
 have hp : WireS.parseD (bl (sD ++ ⟨#[33]⟩)) = none := by
  rw [bl_snoc]
  unfold sD
  rw [bl_bsOf]
  exact DlK.parse_more DlK.fits1 33
 rw [hp] at h
 exact h
theorem Check_s (w : World) (hv : VarsD w) : Calls Tryz.prog 56 #[.agg dlZ] w (RB (.int .i64 2) w) := by
 have h := WireD.d_Check w dlZ 0 ⟨#[]⟩ 0 0 0 0 ⟨#[]⟩ rfl hv.i (by decide) (by decide) (by decide +kernel)
 have hc : checkD (dlOf 0 ⟨#[]⟩ 0 0 0 0 ⟨#[]⟩) = false := by decide +kernel
 rw [hc] at h
 exact h
theorem Verify_1 (w : World) (v : Value) (hk : VarsH w) (hv : VarsD w) (hg : Sl w v 36 1 ([gr].flatMap Gr'.cs)) : Calls Tryz.prog 21 #[v, .agg (dA 1 gD)] w (RB (.int .i64 0) w) := by
 refine DlT.P_Verify w (dA 1 gD) 1 rB 1 5 2 1 gD rfl hv (by decide) (by decide) rB_z gD_z (check_1 (.inl rfl)) v 0 (fun w' hb => ?_)
 rw [text_1, if_pos rfl]
 have h := BookE.Verify_yes w' v gr 2 5 (bsOf DlK.TD1) gD 1 gr_right rfl (hg.below hb) (found_yes _ (by decide) (by decide)) (by rw [size_bsOf]; have := DlK.TD1_len; omega) gD_size (by unfold gD; rw [bl_bsOf, DlK.G_head]; decide) (hk.below hb)
 have hc : climbOf 1 (bl (bsOf DlK.TD1)) (bl gD) = gr.rt.l := by
  unfold gD
  rw [bl_bsOf, bl_bsOf, DlK.climb1]
  exact (rootK_l _ _).symm
 rw [if_pos hc] at h
 exact h
theorem Verify_2 (w : World) (v : Value) (hk : VarsH w) (hv : VarsD w) (hg : Sl w v 36 1 ([gr].flatMap Gr'.cs)) : Calls Tryz.prog 21 #[v, .agg (dA 2 nB)] w (RB (.int .i64 3) w) := by
 refine DlT.P_Verify w (dA 2 nB) 2 rB 1 5 2 1 nB rfl hv (by decide) (by decide) rB_z nB_z (check_n (.inr rfl)) v 3 (fun w' hb => ?_)
 rw [if_neg (by decide)]
 exact BookE.Verify_none w' v gr 1 _ _ nB gr_right (hg.below hb) (found_no _)
theorem Fits_1 (w : World) (hv : VarsD w) : Calls Tryz.prog 55 #[.agg (dA 1 gD), .agg (dA 2 nB)] w (RB (.bool true) w) := by
 have h := DlT.P_Fits w (dA 1 gD) (dA 2 nB) 1 rB 1 5 2 1 gD 2 rB 1 5 2 1 nB rfl rfl hv (by decide) (by decide) (by decide) (by decide) rB_z gD_z rB_z nB_z
 have hf : DlT.fitsB 1 rB 1 5 2 1 gD 2 rB 1 5 2 1 nB = true := by
  unfold DlT.fitsB
  rw [check_1 (.inl rfl), check_n (.inr rfl)]
  simp
 rw [hf] at h
 exact h
theorem Fits_2 (w : World) (hv : VarsD w) : Calls Tryz.prog 55 #[.agg (dA 2 nB), .agg (dA 1 gD)] w (RB (.bool false) w) := by
 have h := DlT.P_Fits w (dA 2 nB) (dA 1 gD) 2 rB 1 5 2 1 nB 1 rB 1 5 2 1 gD rfl rfl hv (by decide) (by decide) (by decide) (by decide) rB_z nB_z rB_z gD_z
 have hf : DlT.fitsB 2 rB 1 5 2 1 nB 1 rB 1 5 2 1 gD = false := by
  unfold DlT.fitsB
  simp
 rw [hf] at h
 exact h
/-! ### The ring's root -/
theorem Ring_Root (w0 w : World) (R n : Nat) (v : Value) (hR : RingAt w0 w R sS 1 n v) : Calls Tryz.prog 45 #[.pointer (some ⟨R, 0, none⟩)] w (RB (.agg (rootK [115] 1).A) w) := by
 obtain ⟨Rt, hRte⟩ := nXe ((rootK [115] 1).A)
 have HRtS := lh (show (Tryz.prog.info? 25).map (·.size) = some Rt.size by rw [hRte]; exact H32.info _)
 have HRtN := lh (show 32 = Rt.size by rw [hRte, H32.size])
 have HRtO := lh (show Rt.all (·.oneCell') = true by rw [hRte]; exact H32.one _)
 have hrow := hR.row
 have hrl := lt_row hrow
 have Hc0 : ∀ (j : Nat) (u : Value), Rt.toList[j]? = some u → w.cell? ⟨R, 4 + j, none⟩ = some u := by intro j u hu; rw [cell_row hrow, sS_bl, ringA_at, ← hRte, ← hu]; simp
 obtain ⟨Z, hZ⟩ := nXe (zeroH.A)
 have HLIT : Hid (zq0 Z) := lh (by rw [hZ]; unfold zq0; kernel_rfl)
 have HZN : Hid (Z.size = 32) := lh (by rw [hZ]; kernel_rfl)
 rw [← hRte]
 obtain ⟨w1, hw1⟩ := nXe (w.alloc (.cells Z 25))
 have hb1 : Below w.heap.size w w1 := by rw [hw1]; exact (Below.refl _ w).alloc (Nat.le_refl _) _
 have HZ1 := lh (show w1.heap[w.heap.size]? = some (.cells Z 25 (0, 0)) by rw [hw1]; exact heap_new _ _)
 have hr1 := (hb1.block _ hrl).trans hrow
 have Hcc := lh (show ∀ (j : Nat) (u : Value), Rt.toList[j]? = some u → w1.cell? ⟨R, 4 + j, none⟩ = some u by intro j u hu; rw [cell_row hr1, ← cell_row hrow]; exact Hc0 j u hu)
 obtain ⟨cr1, fr1⟩ := row_facts hr1
 have HBL1 := lh hb1
 have HW1 := lh hw1
 clear hw1 hb1 hr1 hrow Hc0 hRte hZ hR
 go_enter Tryz.func45, Tryz.ntmps45
 go_wp2_with (first | (rw [HLIT.out, ← HW1.out]; refine wpList_load_rowO rfl _ _ rfl R 4 rfl Rt Hcc.out Tryz.underlying25 rfl HRtS.out ?_) | (refine wpList_load_rowO rfl _ _ rfl R 4 rfl Rt Hcc.out Tryz.underlying25 rfl HRtS.out ?_) | (refine wpList_store_rowA rfl _ _ _ rfl w.heap.size Rt rfl rfl _ _ HZ1.out HRtS.out (by rw [HZN.out]; exact HRtN.out) HRtO.out ?_) | fail)
 intro wf hwf
 go_wp2
 refine bodyPost_ret (v := .agg Rt) (results_cell_row rfl _ _ w.heap.size _ Rt (0, 0) _ rfl (by rw [hwf.out]; exact setRow_at HZ1.out) Tryz.underlying25 rfl HRtS.out) rfl ⟨rfl, by rw [hwf.out]; exact below_row HBL1.out (Nat.le_refl _) _⟩
end Go.Proofs.YtkcikadgnnjjjaaGreatDoor.DlL
