/-
  WHAT IS PROVED: how any entry, head, or deal is signed by any ring, by the document. whether any entry, head, or deal is verified by any book, by the program. plain facts of lives' head, and what '==' says of two heads. what the program's functions answer at the inputs of the statements' own check of the heads. Condition: what each theorem names.
-/
import Derived.Test.YtkcikadgnnjjjaaGreatDoorS0
import Derived.Test.YtkcikadgnnjjjaaGreatDoorZEHD24
import Derived.Test.YtkcikadgnnjjjaaGreatDoorZH43
set_option linter.unusedVariables false
set_option linter.unusedSimpArgs false
set_option maxRecDepth 100000
set_option maxHeartbeats 4000000
namespace Go.Proofs.YtkcikadgnnjjjaaGreatDoor.EgT
open Go Go.RowKit Go.Shelf OctetS IdentS EntS OctP OctQ OctG IdentP EntP EventC ShaA Steps KeyA KeyS KeyI KeyK TreeA RkM EgS WireS WireT
theorem head2_sign (w : World) (sd : ByteArray) (h nx : Nat) (v : Value) (hsd : sd.size ≤ 64) (hh : h ≤ 7) (hn0 : nx ≤ 2 ^ h) (hv0 : Sl w v 32 (2 ^ h) ((leavesH (bl sd) (2 ^ h)).flatMap H32.cs))
 (p : Array Value) (r : ByteArray) (ep ix : Int) (pv : List UInt8) (s : ByteArray) (hp : HdP p r ep ix pv s) (hr : r.size ≤ 140737488351232) (hs : s.size ≤ maxLen) (S : ByteArray × Nat × Int) (hS0 : S = signS sd h nx (checkH (hdOf r ep ix pv s)) (HdS.text (hdOf r ep ix pv s)) s) :
 Calls Tryz.prog 19 #[.agg (ring2 sd h nx v), .agg p] w (KeyA.RB (.tuple #[.agg (ring2 sd h S.2.1 v), .agg (hdA r ep ix pv S.1), .int .i64 S.2.2]) w) := by
 unfold signS at hS0
 have hT := fun w => HdT.R_Text w p r ep ix pv s hp hr hs
 unfold HdS.textOf at hT
 obtain ⟨va, vcap, rfl, _, _⟩ := hv0.form
 have HpS := lh (show (Tryz.prog.info? 47).map (·.size) = some p.size by rw [hp.size]; kernel_rfl)
 have HpN := lh (show 36 = p.size from (hp.size).symm)
 have HpO := lh (show p.all (·.oneCell') = true by rw [hp.eq]; exact hdA_one _ _ _ _ _)
 obtain ⟨E, hE⟩ := nXe (ring2 sd h nx (.slice va (2 ^ h) vcap))
 have HES := lh (show (Tryz.prog.info? 40).map (·.size) = some E.size by rw [hE]; kernel_rfl)
 have HEN := lh (show 4 = E.size by rw [hE]; rfl)
 have HEO := lh (show E.all (·.oneCell') = true by rw [hE]; simp [ring2, Value.oneCell'])
 obtain ⟨Z, hZ⟩ := nXe (zl3)
 have HLIT : Hid (zq3 Z) := lh hZ.symm
 have HZN : Hid (Z.size = 36) := lh (by rw [hZ]; rfl)
 obtain ⟨Y, hY⟩ : ∃ Y : Array Value, Y = #[.string ⟨#[]⟩, .int .i64 0, .int .i64 0, .slice none 0 0] := ⟨_, rfl⟩
 have HLR : Hid ((#[.string ⟨#[]⟩, .int .i64 0, .int .i64 0, .slice none 0 0] : Array Value) = Y) := lh hY.symm
 have HYN : Hid (Y.size = 4) := lh (by rw [hY]; rfl)
 have heq := hp.eq
 obtain ⟨w0, hw0⟩ := nXe ((((w.alloc (.cells E 40)).alloc (.cells p 47)).alloc (.cells Y 40)).alloc (.cells Z 47))
 have hb0 : Below w.heap.size w w0 := by rw [hw0]; exact ((((Below.refl _ w).alloc (Nat.le_refl _) _).alloc (by simp) _).alloc (by simp; omega) _).alloc (by simp; omega) _
 have HE0 := lh (show w0.heap[w.heap.size]? = some (.cells E 40 (0, 0)) by rw [hw0]; exact heap_at (heap_at (heap_at (heap_new _ _) _) _) _)
 have HP0 := lh (show w0.heap[w.heap.size + 1]? = some (.cells p 47 (0, 0)) by rw [hw0]; exact heap_at (heap_at (heap_new' _ (by simp)) _) _)
 have HY0 := lh (show w0.heap[w.heap.size + 2]? = some (.cells Y 40 (0, 0)) by rw [hw0]; exact heap_at (heap_new' _ (by simp)) _)
 have HZ0 := lh (show w0.heap[w.heap.size + 3]? = some (.cells Z 47 (0, 0)) by rw [hw0]; exact heap_new' _ (by simp))
 have HB0 := lh hb0
 have HW0 := lh hw0
 have hsl := fun w' (hb : Below w.heap.size w w') => hv0.below hb
 cases hc : checkH (hdOf r ep ix pv s)
 ·rw [hc, if_neg (by simp)] at hS0
  rw [hc, if_neg (by simp)] at hT
  subst hS0
  show Calls _ _ _ _ (KeyA.RB (.tuple #[.agg (ring2 sd h nx (.slice va (2 ^ h) vcap)), .agg (hdA r ep ix pv s), .int .i64 2]) w)
  rw [← heq, ← hE]
  have HT := lh hT
  clear hT hc hp hr hs hb0 hw0 hv0 hZ hY hE heq hsl
  go_enter Tryz.func19, Tryz.ntmps19
  go_wp2_with (first | (rw [HLR.out, HLIT.out, ← HW0.out]; refine wpList_load_row rfl _ _ rfl (w.heap.size + 1) rfl _ p (0, 0) _ HP0.out Tryz.underlying47 rfl HpS.out ?_) | fail)
  refine (HT.out w0).mono ?_
  rintro e' w1 ⟨rfl, hb⟩
  have HE1 := kpB hb HE0
  have HP1 := kpB hb HP0
  have HY1 := kpB hb HY0
  have HZ1 := kpB hb HZ0
  have HB1 := tbB HB0 hb
  clear hb
  unfold whyOf
  go_wp2
  refine wp_region_noPanic ?_
  refine wp_region_held (S := (fun W => W.heap[w.heap.size]? = some (.cells E 40 (0, 0)) ∧ W.heap[(w.heap.size + 1)]? = some (.cells p 47 (0, 0)))) (by kernel_rfl) ?_
  change wpAnyH _ _ _ _ _ _ _ _ (World.drew w1)
  have hS0 : (World.drew w1).heap[w.heap.size]? = some (.cells E 40 (0, 0)) ∧ (World.drew w1).heap[(w.heap.size + 1)]? = some (.cells p 47 (0, 0)) := ⟨HE1.out, HP1.out⟩
  refine tkH (i := 0) (v := .agg E) rfl (.inl ⟨by rfl, fun wq hSw => EqHash.exec_load_row 40 _ rfl _ rfl hSw.1 Tryz.underlying40 rfl HES.out⟩) hS0 ?_
  simp only [Act.put, sxx]
  refine tkH (i := 1) (v := .agg p) rfl (.inl ⟨by rfl, fun wq hSw => EqHash.exec_load_row 47 _ rfl _ rfl hSw.2 Tryz.underlying47 rfl HpS.out⟩) hS0 ?_
  simp only [Act.put, sxx]
  refine tkH (i := 2) (v := ?_) rfl (.inl ⟨by rfl, ?_⟩) hS0 ?_
  rotate_left
  ·intro wq hSw
   go_simp
   rfl
  simp only [Act.put, sxx]
  refine aOne (r := 3) ?_
  refine WrC.wpOp_store_row rfl (by rfl) _ _ _ rfl (w.heap.size + 2) E rfl rfl _ _ HY1.out HES.out (by rw [HYN.out]; exact HEN.out) HEO.out ?_
  intro u1 hu1
  have hS1 : u1.heap[w.heap.size]? = some (.cells E 40 (0, 0)) ∧ u1.heap[(w.heap.size + 1)]? = some (.cells p 47 (0, 0)) := ⟨by rw [hu1.out, setRow_far _ (by omega)]; exact hS0.1, by rw [hu1.out, setRow_far _ (by omega)]; exact hS0.2⟩
  have HZ9 := lh (show u1.heap[w.heap.size + 3]? = some (.cells Z 47 (0, 0)) by rw [hu1.out, setRow_far _ (by omega)]; exact HZ1.out)
  have HY9 := lh (show u1.heap[w.heap.size + 2]? = some (.cells E 40 (0, 0)) by rw [hu1.out]; exact setRow_at HY1.out)
  have HB9 := lh (show Below w.heap.size w u1 by rw [hu1.out]; exact below_row (HB1.out).drew (by omega) _)
  refine ⟨hS1, ?_⟩
  simp only [Act.put, sxx]
  refine aOne (r := 4) ?_
  refine WrC.wpOp_store_row rfl (by rfl) _ _ _ rfl (w.heap.size + 3) p rfl rfl _ _ HZ9.out HpS.out (by rw [HZN.out]; exact HpN.out) HpO.out ?_
  intro u2 hu2
  have hS2 : u2.heap[w.heap.size]? = some (.cells E 40 (0, 0)) ∧ u2.heap[(w.heap.size + 1)]? = some (.cells p 47 (0, 0)) := ⟨by rw [hu2.out, setRow_far _ (by omega)]; exact hS1.1, by rw [hu2.out, setRow_far _ (by omega)]; exact hS1.2⟩
  have HZ8 := lh (show u2.heap[w.heap.size + 3]? = some (.cells p 47 (0, 0)) by rw [hu2.out]; exact setRow_at HZ9.out)
  have HY8 := lh (show u2.heap[w.heap.size + 2]? = some (.cells E 40 (0, 0)) by rw [hu2.out, setRow_far _ (by omega)]; exact HY9.out)
  have HB8 := lh (show Below w.heap.size w u2 by rw [hu2.out]; exact below_row HB9.out (by omega) _)
  clear hu1 hu2
  refine ⟨hS2, ?_⟩
  simp only [Act.put, sxx]
  refine tkH (i := 5) (v := ?_) rfl (.inl ⟨by rfl, ?_⟩) hS2 ?_
  rotate_left
  ·intro wq _
   go_simp
   rfl
  simp only [Act.put, sxx]
  refine wpAnyH_done (by kernel_rfl) (NoPanic.normal ?_) _
  go_wp2
  refine bodyPost_ret (v := .tuple #[.agg E, .agg p, .int .i64 2]) (results_cell2_slot rfl _ _ (w.heap.size + 2) (w.heap.size + 3) 40 47 E p (0, 0) (0, 0) _ _ rfl HY8.out Tryz.underlying40 rfl HES.out rfl HZ8.out Tryz.underlying47 rfl HpS.out rfl) rfl ⟨rfl, HB8.out⟩
 ·rw [hc, if_pos rfl] at hS0 hT
  have hTz : (bsOf (HdS.text (hdOf r ep ix pv s))).size ≤ 140737488351232 := by rw [size_bsOf]; have := HdT.hd_len (HdS.check_iff.1 hc) hp.len; omega
  have hTb : bl (bsOf (HdS.text (hdOf r ep ix pv s))) = HdS.text (hdOf r ep ix pv s) := bl_bsOf _
  obtain ⟨Tx, hTx⟩ := nXe (bsOf (HdS.text (hdOf r ep ix pv s)))
  rw [← hTx] at hT hTz hTb
  by_cases hn : nx = 2 ^ h
  ·rw [if_pos hn] at hS0
   subst hS0
   show Calls _ _ _ _ (KeyA.RB (.tuple #[.agg (ring2 sd h nx (.slice va (2 ^ h) vcap)), .agg (hdA r ep ix pv s), .int .i64 10]) w)
   have hS : ∀ w, Calls Tryz.prog 41 #[.agg E, .string Tx] w (KeyA.RB (.tuple #[.agg E, .string ⟨#[]⟩, .int .i64 10]) w) := fun w => by
        rw [hE, hn]
        exact RkN.Sign2_over w sd Tx h (.slice va (2 ^ h) vcap) hh rfl
   rw [← heq, ← hE]
   have HT := lh hT
   have HS := lh hS
   clear hT hS hTx hTz hTb hn hc hp hr hs hb0 hw0 hv0 hZ hY hE heq hsl
   go_enter Tryz.func19, Tryz.ntmps19
   go_wp2_with (first | (rw [HLR.out, HLIT.out, ← HW0.out]; refine wpList_load_row rfl _ _ rfl (w.heap.size + 1) rfl _ p (0, 0) _ HP0.out Tryz.underlying47 rfl HpS.out ?_) | fail)
   refine (HT.out w0).mono ?_
   rintro e' w1 ⟨rfl, hb⟩
   have HE1 := kpB hb HE0
   have HP1 := kpB hb HP0
   have HY1 := kpB hb HY0
   have HZ1 := kpB hb HZ0
   have HB1 := tbB HB0 hb
   clear hb
   unfold whyOf
   go_wp2_with (first | (refine wpList_load_row rfl _ _ rfl w.heap.size rfl _ E (0, 0) _ HE1.out Tryz.underlying40 rfl HES.out ?_) | fail)
   refine (HS.out w1).mono ?_
   rintro e' w2 ⟨rfl, hb⟩
   have HE2 := kpB hb HE1
   have HP2 := kpB hb HP1
   have HY2 := kpB hb HY1
   have HZ2 := kpB hb HZ1
   have HB2 := tbB HB1 hb
   clear hb
   go_wp2_with (first | (refine wpList_store_rowA rfl _ _ _ rfl w2.heap.size E rfl rfl _ _ (heap_new _ _) HES.out (by rw [← HEN.out]; rfl) HEO.out ?_) | fail)
   intro w3 hw3
   have hb : Below w2.heap.size w2 w3 := by rw [hw3.out]; exact below_row bAx (Nat.le_refl _) _
   have HE3 := kpB hb HE2
   have HP3 := kpB hb HP2
   have HY3 := kpB hb HY2
   have HZ3 := kpB hb HZ2
   have HB3 := tbB HB2 hb
   clear hb hw3
   go_wp2
   refine wp_region_noPanic ?_
   refine wp_region_held (S := (fun W => W.heap[w.heap.size]? = some (.cells E 40 (0, 0)) ∧ W.heap[(w.heap.size + 1)]? = some (.cells p 47 (0, 0)))) (by kernel_rfl) ?_
   change wpAnyH _ _ _ _ _ _ _ _ (World.drew w3)
   have hS0 : (World.drew w3).heap[w.heap.size]? = some (.cells E 40 (0, 0)) ∧ (World.drew w3).heap[(w.heap.size + 1)]? = some (.cells p 47 (0, 0)) := ⟨HE3.out, HP3.out⟩
   refine tkH (i := 0) (v := .agg E) rfl (.inl ⟨by rfl, fun wq hSw => EqHash.exec_load_row 40 _ rfl _ rfl hSw.1 Tryz.underlying40 rfl HES.out⟩) hS0 ?_
   simp only [Act.put, sxx]
   refine tkH (i := 1) (v := .agg p) rfl (.inl ⟨by rfl, fun wq hSw => EqHash.exec_load_row 47 _ rfl _ rfl hSw.2 Tryz.underlying47 rfl HpS.out⟩) hS0 ?_
   simp only [Act.put, sxx]
   refine tkH (i := 2) (v := ?_) rfl (.inl ⟨by rfl, ?_⟩) hS0 ?_
   rotate_left
   ·intro wq hSw
    go_simp
    rfl
   simp only [Act.put, sxx]
   refine aOne (r := 3) ?_
   refine WrC.wpOp_store_row rfl (by rfl) _ _ _ rfl (w.heap.size + 2) E rfl rfl _ _ HY3.out HES.out (by rw [HYN.out]; exact HEN.out) HEO.out ?_
   intro u1 hu1
   have hS1 : u1.heap[w.heap.size]? = some (.cells E 40 (0, 0)) ∧ u1.heap[(w.heap.size + 1)]? = some (.cells p 47 (0, 0)) := ⟨by rw [hu1.out, setRow_far _ (by omega)]; exact hS0.1, by rw [hu1.out, setRow_far _ (by omega)]; exact hS0.2⟩
   have HZ9 := lh (show u1.heap[w.heap.size + 3]? = some (.cells Z 47 (0, 0)) by rw [hu1.out, setRow_far _ (by omega)]; exact HZ3.out)
   have HY9 := lh (show u1.heap[w.heap.size + 2]? = some (.cells E 40 (0, 0)) by rw [hu1.out]; exact setRow_at HY3.out)
   have HB9 := lh (show Below w.heap.size w u1 by rw [hu1.out]; exact below_row (HB3.out).drew (by omega) _)
   refine ⟨hS1, ?_⟩
   simp only [Act.put, sxx]
   refine aOne (r := 4) ?_
   refine WrC.wpOp_store_row rfl (by rfl) _ _ _ rfl (w.heap.size + 3) p rfl rfl _ _ HZ9.out HpS.out (by rw [HZN.out]; exact HpN.out) HpO.out ?_
   intro u2 hu2
   have hS2 : u2.heap[w.heap.size]? = some (.cells E 40 (0, 0)) ∧ u2.heap[(w.heap.size + 1)]? = some (.cells p 47 (0, 0)) := ⟨by rw [hu2.out, setRow_far _ (by omega)]; exact hS1.1, by rw [hu2.out, setRow_far _ (by omega)]; exact hS1.2⟩
   have HZ8 := lh (show u2.heap[w.heap.size + 3]? = some (.cells p 47 (0, 0)) by rw [hu2.out]; exact setRow_at HZ9.out)
   have HY8 := lh (show u2.heap[w.heap.size + 2]? = some (.cells E 40 (0, 0)) by rw [hu2.out, setRow_far _ (by omega)]; exact HY9.out)
   have HB8 := lh (show Below w.heap.size w u2 by rw [hu2.out]; exact below_row HB9.out (by omega) _)
   clear hu1 hu2
   refine ⟨hS2, ?_⟩
   simp only [Act.put, sxx]
   refine tkH (i := 5) (v := ?_) rfl (.inl ⟨by rfl, ?_⟩) hS2 ?_
   rotate_left
   ·intro wq _
    go_simp
    rfl
   simp only [Act.put, sxx]
   refine wpAnyH_done (by kernel_rfl) (NoPanic.normal ?_) _
   go_wp2
   refine bodyPost_ret (v := .tuple #[.agg E, .agg p, .int .i64 10]) (results_cell2_slot rfl _ _ (w.heap.size + 2) (w.heap.size + 3) 40 47 E p (0, 0) (0, 0) _ _ rfl HY8.out Tryz.underlying40 rfl HES.out rfl HZ8.out Tryz.underlying47 rfl HpS.out rfl) rfl ⟨rfl, HB8.out⟩
  ·rw [if_neg hn] at hS0
   have hlt : nx < 2 ^ h := by omega
   obtain ⟨G, hG⟩ := nXe (bsOf (sigOf (bl sd) h nx (bl Tx)))
   rw [← hTb, ← hG] at hS0
   subst hS0
   show Calls _ _ _ _ (KeyA.RB (.tuple #[.agg (ring2 sd h (nx + 1 : Nat) (.slice va (2 ^ h) vcap)), .agg (hdA r ep ix pv G), .int .i64 0]) w)
   have hS := fun w' (hb : Below w.heap.size w w') => RkO.Sign2_ok w' sd Tx h nx (.slice va (2 ^ h) vcap) hsd hTz hh hlt (hsl w' hb)
   obtain ⟨E2, hE2⟩ := nXe (ring2 sd h (nx + 1 : Nat) (.slice va (2 ^ h) vcap))
   have HE2S := lh (show (Tryz.prog.info? 40).map (·.size) = some E2.size by rw [hE2]; kernel_rfl)
   have HE2N := lh (show 4 = E2.size by rw [hE2]; rfl)
   have HE2O := lh (show E2.all (·.oneCell') = true by rw [hE2]; simp [ring2, Value.oneCell'])
   obtain ⟨Q, hQ⟩ := nXe (hdA r ep ix pv G)
   have hset : p.setIfInBounds 35 (.string G) = Q := by rw [heq, hQ]; exact hd_sig _ _ _ hp.len _ _
   have HQN := lh (show 36 = Q.size by rw [← hset, Array.size_setIfInBounds]; exact HpN.out)
   have HQS := lh (show (Tryz.prog.info? 47).map (·.size) = some Q.size by rw [← HQN.out, HpN.out]; exact HpS.out)
   have HQO := lh (show Q.all (·.oneCell') = true by rw [hQ]; exact hdA_one _ _ _ _ _)
   have HC := lh (hp.c35)
   have Hset := lh hset
   rw [← hG, ← hE, ← hE2] at hS
   rw [← hE, ← hE2, ← hQ]
   have HT := lh hT
   have HS := lh hS
   clear hT hS hTx hTz hTb hn hlt hG hE2 hQ hset hc hp hr hs hb0 hw0 hv0 hZ hY hE heq hsl
   go_enter Tryz.func19, Tryz.ntmps19
   go_wp2_with (first | (rw [HLR.out, HLIT.out, ← HW0.out]; refine wpList_load_row rfl _ _ rfl (w.heap.size + 1) rfl _ p (0, 0) _ HP0.out Tryz.underlying47 rfl HpS.out ?_) | fail)
   refine (HT.out w0).mono ?_
   rintro e' w1 ⟨rfl, hb⟩
   have HE1 := kpB hb HE0
   have HP1 := kpB hb HP0
   have HY1 := kpB hb HY0
   have HZ1 := kpB hb HZ0
   have HB1 := tbB HB0 hb
   clear hb
   unfold whyOf
   go_wp2_with (first | (refine wpList_load_row rfl _ _ rfl w.heap.size rfl _ E (0, 0) _ HE1.out Tryz.underlying40 rfl HES.out ?_) | fail)
   refine (HS.out w1 HB1.out).mono ?_
   rintro e' w2 ⟨rfl, hb⟩
   have HE2 := kpB hb HE1
   have HP2 := kpB hb HP1
   have HY2 := kpB hb HY1
   have HZ2 := kpB hb HZ1
   have HB2 := tbB HB1 hb
   clear hb
   go_wp2_with (first | (refine wpList_store_rowA rfl _ _ _ rfl w2.heap.size E2 rfl rfl _ _ (heap_new _ _) HE2S.out (by rw [← HE2N.out]; rfl) HE2O.out ?_) | fail)
   intro w3 hw3
   have hb : Below w2.heap.size w2 w3 := by rw [hw3.out]; exact below_row bAx (Nat.le_refl _) _
   have HD3 := lh (show w3.heap[w2.heap.size]? = some (.cells E2 40 (0, 0)) by rw [hw3.out]; exact setRow_at (heap_new _ _))
   have HE3 := kpB hb HE2
   have HP3 := kpB hb HP2
   have HY3 := kpB hb HY2
   have HZ3 := kpB hb HZ2
   have HB3 := tbB HB2 hb
   obtain ⟨g, hg⟩ := nXe (w2.heap.size)
   have hgw : w.heap.size + 3 < g := by rw [hg]; exact lt_row HZ2.out
   rw [← hg] at HD3 ⊢
   clear hb hw3 hg
   have c36 : w3.cell? ⟨w.heap.size + 1, 35, none⟩ = some (.string s) := (cell_row HP3.out).trans HC.out
   have f36 : w3.frozen? ⟨w.heap.size + 1, 35, none⟩ = false := frozen_row HP3.out
   obtain ⟨w4, hw4⟩ := nXe (w3.setCell ⟨w.heap.size + 1, 35, none⟩ (.string G))
   have HP4 := lh (show w4.heap[w.heap.size + 1]? = some (.cells Q 47 (0, 0)) by rw [hw4, ← Hset.out]; exact heap_setCell_same HP3.out _)
   have HD4 := lh (show w4.heap[g]? = some (.cells E2 40 (0, 0)) by rw [hw4]; exact (heap_setCell_far _ (by omega)).trans HD3.out)
   have HY4 := lh (show w4.heap[w.heap.size + 2]? = some (.cells Y 40 (0, 0)) by rw [hw4]; exact (heap_setCell_far _ (by omega)).trans HY3.out)
   have HZ4 := lh (show w4.heap[w.heap.size + 3]? = some (.cells Z 47 (0, 0)) by rw [hw4]; exact (heap_setCell_far _ (by omega)).trans HZ3.out)
   have HB4 := lh (show Below w.heap.size w w4 by rw [hw4]; exact HB3.out.setCell (p := ⟨w.heap.size + 1, 35, none⟩) (Nat.le_succ _) _)
   have HW4 := lh hw4
   clear hw4
   go_wp2_with fail
   rw [← HW4.out]
   refine wp_region_noPanic ?_
   refine wp_region_held (S := (fun W => W.heap[g]? = some (.cells E2 40 (0, 0)) ∧ W.heap[(w.heap.size + 1)]? = some (.cells Q 47 (0, 0)))) (by kernel_rfl) ?_
   change wpAnyH _ _ _ _ _ _ _ _ (World.drew w4)
   have hS0 : (World.drew w4).heap[g]? = some (.cells E2 40 (0, 0)) ∧ (World.drew w4).heap[(w.heap.size + 1)]? = some (.cells Q 47 (0, 0)) := ⟨HD4.out, HP4.out⟩
   refine tkH (i := 0) (v := .agg E2) rfl (.inl ⟨by rfl, fun wq hSw => EqHash.exec_load_row 40 _ rfl _ rfl hSw.1 Tryz.underlying40 rfl HE2S.out⟩) hS0 ?_
   simp only [Act.put, sxx]
   refine tkH (i := 1) (v := .agg Q) rfl (.inl ⟨by rfl, fun wq hSw => EqHash.exec_load_row 47 _ rfl _ rfl hSw.2 Tryz.underlying47 rfl HQS.out⟩) hS0 ?_
   simp only [Act.put, sxx]
   refine aOne (r := 2) ?_
   refine WrC.wpOp_store_row rfl (by rfl) _ _ _ rfl (w.heap.size + 2) E2 rfl rfl _ _ HY4.out HE2S.out (by rw [HYN.out]; exact HE2N.out) HE2O.out ?_
   intro u1 hu1
   have hS1 : u1.heap[g]? = some (.cells E2 40 (0, 0)) ∧ u1.heap[(w.heap.size + 1)]? = some (.cells Q 47 (0, 0)) := ⟨by rw [hu1.out, setRow_far _ (by omega)]; exact hS0.1, by rw [hu1.out, setRow_far _ (by omega)]; exact hS0.2⟩
   have HZ9 := lh (show u1.heap[w.heap.size + 3]? = some (.cells Z 47 (0, 0)) by rw [hu1.out, setRow_far _ (by omega)]; exact HZ4.out)
   have HY9 := lh (show u1.heap[w.heap.size + 2]? = some (.cells E2 40 (0, 0)) by rw [hu1.out]; exact setRow_at HY4.out)
   have HB9 := lh (show Below w.heap.size w u1 by rw [hu1.out]; exact below_row (HB4.out).drew (by omega) _)
   refine ⟨hS1, ?_⟩
   simp only [Act.put, sxx]
   refine aOne (r := 3) ?_
   refine WrC.wpOp_store_row rfl (by rfl) _ _ _ rfl (w.heap.size + 3) Q rfl rfl _ _ HZ9.out HQS.out (by rw [HZN.out]; exact HQN.out) HQO.out ?_
   intro u2 hu2
   have hS2 : u2.heap[g]? = some (.cells E2 40 (0, 0)) ∧ u2.heap[(w.heap.size + 1)]? = some (.cells Q 47 (0, 0)) := ⟨by rw [hu2.out, setRow_far _ (by omega)]; exact hS1.1, by rw [hu2.out, setRow_far _ (by omega)]; exact hS1.2⟩
   have HZ8 := lh (show u2.heap[w.heap.size + 3]? = some (.cells Q 47 (0, 0)) by rw [hu2.out]; exact setRow_at HZ9.out)
   have HY8 := lh (show u2.heap[w.heap.size + 2]? = some (.cells E2 40 (0, 0)) by rw [hu2.out, setRow_far _ (by omega)]; exact HY9.out)
   have HB8 := lh (show Below w.heap.size w u2 by rw [hu2.out]; exact below_row HB9.out (by omega) _)
   clear hu1 hu2
   refine ⟨hS2, ?_⟩
   simp only [Act.put, sxx]
   refine tkH (i := 4) (v := ?_) rfl (.inl ⟨by rfl, ?_⟩) hS2 ?_
   rotate_left
   ·intro wq _
    go_simp
    rfl
   simp only [Act.put, sxx]
   refine wpAnyH_done (by kernel_rfl) (NoPanic.normal ?_) _
   go_wp2
   refine bodyPost_ret (v := .tuple #[.agg E2, .agg Q, .int .i64 0]) (results_cell2_slot rfl _ _ (w.heap.size + 2) (w.heap.size + 3) 40 47 E2 Q (0, 0) (0, 0) _ _ rfl HY8.out Tryz.underlying40 rfl HE2S.out rfl HZ8.out Tryz.underlying47 rfl HQS.out rfl) rfl ⟨rfl, HB8.out⟩
end Go.Proofs.YtkcikadgnnjjjaaGreatDoor.EgT
namespace Go.Proofs.YtkcikadgnnjjjaaGreatDoor.EgV
open Go Go.RowKit Go.Shelf OctetS IdentS EntS OctP OctQ OctG IdentP EntP EventC ShaA Steps KeyA TreeA WireS WireT BookA BkF
theorem head_any (w : World) (p : Array Value) (r : ByteArray) (ep ix : Int) (pv : List UInt8) (s : ByteArray) (hp : HdP p r ep ix pv s) (hv : VarsI w) (hr : r.size ≤ 140737488351232) (hs : s.size ≤ maxLen) (v : Value) (sv : Int) (L : List Gr') (hb : Sl w v 36 L.length (L.flatMap Gr'.cs)) (hk : VarsH w) :
 Calls Tryz.prog 16 #[v, .int .i64 sv, .agg p] w (KeyA.RB (.int .i64 (if checkH (hdOf r ep ix pv s) = true then verifyB L sv ix (HdS.text (hdOf r ep ix pv s)) (bl s) else 2)) w) := by
 cases hc : checkH (hdOf r ep ix pv s)
 ·rw [if_neg (by simp)]
  have hT := fun w (hv : VarsI w) => HdT.P_Text w p r ep ix pv s hp hv hr hs
  rw [hc] at hT
  obtain ⟨Tx, hTx⟩ := nXe (bsOf (HdS.textOf (hdOf r ep ix pv s)))
  rw [← hTx] at hT
  have hpi : (Tryz.prog.info? 47).map (·.size) = some p.size := by rw [hp.size]; kernel_rfl
  have HI := lh hpi
  obtain ⟨w0, hw0⟩ := nXe (w.alloc (.cells p 47))
  have hb0 : Below w.heap.size w w0 := by rw [hw0]; exact (Below.refl _ w).alloc (Nat.le_refl _) _
  have HX0 := lh (show w0.heap[w.heap.size]? = some (.cells p 47 (0, 0)) by rw [hw0]; exact heap_new _ _)
  have HBL0 := lh hb0
  have HW0 := lh hw0
  have HV0 := lh (hv.below hb0)
  have HT := lh hT
  clear hT hTx hc hw0 hb0 hp hv hr hs hpi hk hb
  go_enter Tryz.func16, Tryz.ntmps16
  go_wp2_with (first | (rw [← HW0.out]; refine wpList_load_row rfl _ _ rfl w.heap.size rfl _ p (0, 0) _ HX0.out Tryz.underlying47 rfl HI.out ?_) | fail)
  refine (HT.out w0 HV0.out).mono ?_
  rintro e' w1 ⟨rfl, hb⟩
  have HBL1 := tbB HBL0 hb
  clear hb
  unfold whyOf
  go_wp2
  go_ret
  exact ⟨rfl, HBL1.out⟩
 ·rw [if_pos rfl]
  refine HdT.P_Verify w p r ep ix pv s hp hv hr hs hc v sv _ (fun w' hw => ?_)
  have h := Verify_ok w' v L (sv) ix (bsOf ((HdS.text (hdOf r ep ix pv s)))) s (hb.below hw) (by rw [size_bsOf]; have := HdT.hd_len (HdS.check_iff.1 hc) hp.len; omega) hs (hk.below hw)
  rw [bl_bsOf] at h
  exact h
end Go.Proofs.YtkcikadgnnjjjaaGreatDoor.EgV
namespace Go.Proofs.YtkcikadgnnjjjaaGreatDoor.EqHd
open Go Go.RowKit ShaB EqHash EqEnt WireT OctP
theorem ext_sum (r : ByteArray) (ep ix : Int) (pv : List UInt8) (s : ByteArray) (hp : pv.length = 32) : (hdA r ep ix pv s).extract 3 35 = pB 32 pv := by
 rw [← pB_of hp]
 unfold hdA
 have h1 : (byV pv).length = 32 := by rw [byV_length, hp]
 rw [List.extract_toArray]
 congr 1
 rw [List.extract_eq_take_drop]
 simp [h1]
theorem fieldsHd (d : Nat) (r1 r2 s1 s2 : ByteArray) (a1 a2 b1 b2 : Int) (p1 p2 : List UInt8) (h1 : p1.length = 32) (h2 : p2.length = 32) (w : World) :
 (Op.eqFields (d + 2) (hdA r1 a1 b1 p1 s1) (hdA r2 a2 b2 p2 s2) [⟨"Room", 9, 0, false, "", "", 0⟩, ⟨"Epoch", 3, 1, false, "", "", 16⟩, ⟨"Index", 3, 2, false, "", "", 24⟩, ⟨"Sum", 25, 3, false, "", "", 32⟩, ⟨"Sig", 9, 35, false, "", "", 64⟩]).run Tryz.prog w =
 .ok (r1.toList == r2.toList && (a1 == a2 && (b1 == b2 && (hEq p1 p2 && s1.toList == s2.toList)))) w := by
 have u3 : Tryz.prog.underlying 3 = some (.int .i64) := by kernel_rfl
 have u9 : Tryz.prog.underlying 9 = some .string := by kernel_rfl
 have k3 : Tryz.prog.plainKey 3 = true := by kernel_rfl
 have k9 : Tryz.prog.plainKey 9 = true := by kernel_rfl
 have E1 : HdP (hdA r1 a1 b1 p1 s1) r1 a1 b1 p1 s1 := ⟨rfl, h1⟩
 have E2 : HdP (hdA r2 a2 b2 p2 s2) r2 a2 b2 p2 s2 := ⟨rfl, h2⟩
 have x1 := ext_sum r1 a1 b1 p1 s1 h1
 have x2 := ext_sum r2 a2 b2 p2 s2 h2
 obtain ⟨A, hA⟩ := nXe (hdA r1 a1 b1 p1 s1)
 obtain ⟨B, hB⟩ := nXe (hdA r2 a2 b2 p2 s2)
 rw [← hA] at E1 x1 ⊢
 rw [← hB] at E2 x2 ⊢
 have q0 := run_part_plain w k9 (off := 0) E1.c0
 have q0' := run_part_plain w k9 (off := 0) E2.c0
 have q1 := run_part_plain w k3 (off := 1) E1.c1
 have q1' := run_part_plain w k3 (off := 1) E2.c1
 have q2 := run_part_plain w k3 (off := 2) E1.c2
 have q2' := run_part_plain w k3 (off := 2) E2.c2
 have q3 := part_hash w A 3
 have q3' := part_hash w B 3
 have q5 := run_part_plain w k9 (off := 35) E1.c35
 have q5' := run_part_plain w k9 (off := 35) E2.c35
 rw [x1] at q3
 rw [x2] at q3'
 have z0 := run_equalIn_string (P := Tryz.prog) w (d + 1) 9 r1 r2 u9
 have z1 := run_equalIn_int (P := Tryz.prog) w (d + 1) 3 .i64 .i64 a1 a2 u3
 have z2 := run_equalIn_int (P := Tryz.prog) w (d + 1) 3 .i64 .i64 b1 b2 u3
 have z3 := eqHashD d p1 p2 w
 have z5 := run_equalIn_string (P := Tryz.prog) w (d + 1) 9 s1 s2 u9
 have h := eqF_cons (f := ⟨"Room", 9, 0, false, "", "", 0⟩) (by decide) q0 q0' z0 (eqF_cons (f := ⟨"Epoch", 3, 1, false, "", "", 16⟩) (by decide) q1 q1' z1 (eqF_cons (f := ⟨"Index", 3, 2, false, "", "", 24⟩) (by decide) q2 q2' z2
  (eqF_cons (f := ⟨"Sum", 25, 3, false, "", "", 32⟩) (by decide) q3 q3' z3 (eqF_cons (f := ⟨"Sig", 9, 35, false, "", "", 64⟩) (by decide) q5 q5' z5 eqF_nil))))
 rw [Bool.and_true] at h
 exact h
theorem eqHd (r1 r2 s1 s2 : ByteArray) (a1 a2 b1 b2 : Int) (p1 p2 : List UInt8) (h1 : p1.length = 32) (h2 : p2.length = 32) (w : World) : (Op.equalIn 10000 47 (.agg (hdA r1 a1 b1 p1 s1)) (.agg (hdA r2 a2 b2 p2 s2))).run Tryz.prog w =
 .ok (r1.toList == r2.toList && (a1 == a2 && (b1 == b2 && (hEq p1 p2 && s1.toList == s2.toList)))) w := by
 have hS : Tryz.prog.underlying 47 = some (.struct (Tryz.prog.fieldsOf 47)) := by kernel_rfl
 have hF : (Tryz.prog.fieldsOf 47).toList = [⟨"Room", 9, 0, false, "", "", 0⟩, ⟨"Epoch", 3, 1, false, "", "", 16⟩, ⟨"Index", 3, 2, false, "", "", 24⟩, ⟨"Sum", 25, 3, false, "", "", 32⟩, ⟨"Sig", 9, 35, false, "", "", 64⟩] := by kernel_rfl
 have hp : Tryz.prog.stoodInHeld 47 = false := by kernel_rfl
 have h := fieldsHd 9997 r1 r2 s1 s2 a1 a2 b1 b2 p1 p2 h1 h2 w
 rw [← hF] at h
 rw [show (10000 : Nat) = 9999 + 1 from rfl, run_equalIn_agg w 9999 47 _ _ hS hp]
 exact h
theorem guardHd : Go.Program.eqGuardType Tryz.prog Tryz.prog.depth 47 = false := by kernel_rfl
end Go.Proofs.YtkcikadgnnjjjaaGreatDoor.EqHd
namespace Go.Proofs.YtkcikadgnnjjjaaGreatDoor.HdK
open OctetS IdentS EntS KeyS KeyN NSha EntK WireS WireT
set_option maxRecDepth 100000
def sm : List UInt8 := ShaS.sum T5
theorem sm_len : sm.length = 32 := ShaS.sum_length _
theorem sm_bN : bN sm = [249, 200, 118, 160, 220, 29, 98, 80, 156, 131, 132, 93, 67, 34, 73, 193, 190, 169, 101, 119, 90, 52, 91, 237, 241, 72, 83, 182, 99, 232, 233, 38] := by
 unfold sm
 rw [← sum_eq]
 exact eq_of_beq (by decide +kernel)
def hd (ep : Nat) (s : List UInt8) : Hd := ⟨rm, (ep : Int), 5, sm, s⟩
def TH1 : List UInt8 := OctetS.list [markH, rm, num 1, num 5, sm]
def TH2 : List UInt8 := OctetS.list [markH, rm, num 2, num 5, sm]
theorem th_pre (a : List UInt8) (pre : List UInt8) (h : num 5 ++ (OctetS.text markH ++ (OctetS.text rm ++ (OctetS.text a ++ (OctetS.text (num 5) ++ num 32)))) = pre) : OctetS.list [markH, rm, a, num 5, sm] = pre ++ sm := by
 rw [← h]
 unfold OctetS.list
 simp only [List.length_cons, List.length_nil, List.flatMap_cons, List.flatMap_nil, List.append_nil, List.append_assoc]
 have h5 : OctetS.text sm = num 32 ++ sm := by
  unfold OctetS.text
  rw [sm_len]
 rw [h5]
theorem th1_eq : TH1 = [5, 4, 104, 101, 97, 100, 7, 33, 104, 97, 108, 108, 58, 48, 1, 1, 1, 5, 32] ++ sm := th_pre _ _ (by decide +kernel)
theorem th2_eq : TH2 = [5, 4, 104, 101, 97, 100, 7, 33, 104, 97, 108, 108, 58, 48, 1, 2, 1, 5, 32] ++ sm := th_pre _ _ (by decide +kernel)
def G : List UInt8 := sigOf [115] 1 0 TH1
theorem G_len : G.length = 1121 := by
 unfold G
 rw [sigOf_length (by decide)]
theorem G_head : (G.headD 0).toNat = 0 := by
 unfold G
 exact sigOf_head (by decide) (by decide) _ _
theorem G_le : G.length ≤ 8192 := by
 rw [G_len]
 omega
theorem right {ep : Nat} (hi : ep ≤ 4096) {s : List UInt8} (hs : s.length ≤ 8192) : HdS.Right (hd ep s) := ⟨room0, by show (0 : Int) ≤ ep; omega, by show (ep : Int) ≤ 4096; omega, by show (0 : Int) ≤ 5; omega, by show (5 : Int) ≤ 4096; omega, hs⟩
theorem text1 (s : List UInt8) : HdS.text (hd 1 s) = TH1 := rfl
theorem text2 (s : List UInt8) : HdS.text (hd 2 s) = TH2 := rfl
theorem TH1_len : TH1.length ≤ 8192 := by
 rw [th1_eq, List.length_append, sm_len]
 decide
theorem TH2_len : TH2.length ≤ 8192 := by
 rw [th2_eq, List.length_append, sm_len]
 decide
theorem check1 {s : List UInt8} (hs : s.length ≤ 8192) : checkH (hd 1 s) = true := HdS.check_iff.2 (right (by omega) hs)
theorem check2 {s : List UInt8} (hs : s.length ≤ 8192) : checkH (hd 2 s) = true := HdS.check_iff.2 (right (by omega) hs)
theorem bytes1 : HdS.bytesE (hd 1 G) = OctetS.list [TH1, G] := by
 unfold HdS.bytesE
 rw [text1]
 rfl
theorem fits1 : fits [TH1, G] = true := by
 have h := HdS.bytes_fits (right (ep := 1) (by omega) (s := G) G_le) (by rw [text1]; exact TH1_len)
 rw [text1] at h
 exact h
theorem parse1 : parseH (OctetS.list [TH1, G]) = some (hd 1 G) := by
 have h := HdS.parse_bytes (right (ep := 1) (by omega) (s := G) G_le) sm_len (by rw [text1]; exact TH1_len)
 rw [bytes1] at h
 exact h
theorem read_two {l : List (List UInt8)} (h : fits l = true) (hl : l.length = 2) : readH (OctetS.list l) = none := by
 unfold readH
 rw [all_list h]
 match l, hl with
 | [a, b], _ => rfl
theorem climb1 : climbOf 1 TH1 G = rootOf [115] 1 := by
 have h := verify_sig (h := 1) (i := 0) (by decide) (by decide) [115] TH1
 unfold verify at h
 by_cases hb : sigB 1 (sigOf [115] 1 0 TH1) = true
 ·rw [if_pos hb] at h
  by_cases hc : climbOf 1 TH1 (sigOf [115] 1 0 TH1) = rootOf [115] 1
  ·exact hc
  ·rw [if_neg hc] at h
   cases h
 ·rw [if_neg hb] at h
  cases h
theorem bN_app (a b : List UInt8) : bN (a ++ b) = bN a ++ bN b := List.map_append
theorem climb2 : climbOf 1 TH2 G ≠ rootOf [115] 1 := other_no (t := [5, 4, 104, 101, 97, 100, 7, 33, 104, 97, 108, 108, 58, 48, 1, 1, 1, 5, 32, 249, 200, 118, 160, 220, 29, 98, 80, 156, 131, 132, 93, 67, 34, 73, 193, 190, 169, 101, 119, 90, 52, 91, 237, 241, 72, 83, 182, 99, 232, 233, 38]) (o := [5, 4, 104, 101, 97, 100, 7, 33, 104, 97, 108, 108, 58, 48, 1, 2, 1, 5, 32, 249, 200, 118, 160, 220, 29, 98, 80, 156, 131, 132, 93, 67, 34, 73, 193, 190, 169, 101, 119, 90, 52, 91, 237, 241, 72, 83, 182, 99, 232, 233, 38]) (r := [221, 4, 90, 159, 118, 155, 4, 154, 155, 157, 137, 243, 29, 75, 25, 62, 173, 167, 239, 229, 52, 139, 42, 82, 161, 155, 52, 217, 140, 45, 65, 28]) (b := [81, 113, 120, 159, 163, 147, 225, 96, 89, 35, 54, 204, 64, 54, 120, 99, 131, 243, 23, 195, 182, 57, 23, 98, 112, 166, 41, 221, 222, 168, 159, 245]) (by rw [th1_eq, bN_app, sm_bN]; decide +kernel) (by rw [th2_eq, bN_app, sm_bN]; decide +kernel) (by decide +kernel) (by decide +kernel) (by decide)
end Go.Proofs.YtkcikadgnnjjjaaGreatDoor.HdK
namespace Go.Proofs.YtkcikadgnnjjjaaGreatDoor.HdL
open Go Go.RowKit Go.Shelf OctetS IdentS EntS OctP OctG IdentP EntP EventC ShaA Steps KeyA KeyS KeyI KeyK TreeA EntK BookA EntL WireT Lift
def gH : ByteArray := bsOf HdK.G
theorem gH_size : gH.size = 1121 := by
 unfold gH
 rw [size_bsOf, HdK.G_len]
theorem gH_z : gH.size ≤ maxLen := by
 rw [gH_size]
 unfold maxLen
 omega
theorem of_hd (ep : Nat) (s : List UInt8) : hdOf rB (ep : Int) 5 HdK.sm (bsOf s) = HdK.hd ep s := by
 unfold hdOf rB HdK.hd
 rw [bl_bsOf, bl_bsOf]
def hA (ep : Nat) (s : ByteArray) : Array Value := hdA rB (ep : Int) 5 HdK.sm s
theorem hP (ep : Nat) (s : ByteArray) : HdP (hA ep s) rB (ep : Int) 5 HdK.sm s := ⟨rfl, HdK.sm_len⟩
theorem hA_one (ep : Nat) (s : ByteArray) : (hA ep s).all (·.oneCell') = true := hdA_one _ _ _ _ _
theorem hA_size (ep : Nat) (s : ByteArray) : (hA ep s).size = 36 := hdA_size HdK.sm_len
theorem check_n : checkH (hdOf rB ((1 : Nat) : Int) 5 HdK.sm nB) = true := by
 rw [nB_of, of_hd]
 exact HdK.check1 (by simp)
theorem check_1 : checkH (hdOf rB ((1 : Nat) : Int) 5 HdK.sm gH) = true := by
 unfold gH
 rw [of_hd]
 exact HdK.check1 HdK.G_le
theorem check_2 : checkH (hdOf rB ((2 : Nat) : Int) 5 HdK.sm gH) = true := by
 unfold gH
 rw [of_hd]
 exact HdK.check2 HdK.G_le
theorem text_n : HdS.text (hdOf rB ((1 : Nat) : Int) 5 HdK.sm nB) = HdK.TH1 := by
 rw [nB_of, of_hd]
 exact HdK.text1 _
theorem text_1 : HdS.text (hdOf rB ((1 : Nat) : Int) 5 HdK.sm gH) = HdK.TH1 := by
 unfold gH
 rw [of_hd]
 exact HdK.text1 _
theorem text_2 : HdS.text (hdOf rB ((2 : Nat) : Int) 5 HdK.sm gH) = HdK.TH2 := by
 unfold gH
 rw [of_hd]
 exact HdK.text2 _
def sH : ByteArray := bsOf (OctetS.list [HdK.TH1, HdK.G])
theorem list_len2 : (OctetS.list [HdK.TH1, HdK.G]).length ≤ 20000 := by
 have h := EntX.flat_len [HdK.TH1, HdK.G] (fun t ht => by
  simp only [List.mem_cons, List.not_mem_nil, or_false] at ht
  rcases ht with rfl | rfl
  ·exact HdK.TH1_len
  ·exact HdK.G_le)
 have h5 := OctetS.num_length2 (n := 2) (by omega)
 have h2 : ([HdK.TH1, HdK.G].flatMap OctetS.text).length ≤ 8194 * 2 := h
 show (OctetS.num 2 ++ [HdK.TH1, HdK.G].flatMap OctetS.text).length ≤ 20000
 rw [List.length_append]
 omega
theorem sH_size : sH.size ≤ 20000 := by
 unfold sH
 rw [size_bsOf]
 exact list_len2
def smH : H32 := EntX.sumE (entOf rB 1 ((5 : Nat) : Int) z32 xB nB)
theorem smH_l : smH.l = HdK.sm := by
 unfold smH EntX.sumE
 rw [EntL.check_n, if_pos rfl, EntL.text_n]
 exact KeyJ.mk32_l _ _
theorem Of_s (w : World) (hk : VarsH w) (hv : VarsI w) : Calls Tryz.prog 43 #[.agg (eA 5 nB)] w (RB (.tuple #[.agg (hA 1 nB), .int .i64 0]) w) := by
 have h := HdT.P_Of w (eA 5 nB) rB 1 ((5 : Nat) : Int) z32 xB nB (eP 5 nB) hv hk rB_z xB_z nB_z
 unfold HdT.ofA at h
 rw [EntL.check_n, if_pos rfl] at h
 have hl : (EntX.sumE (entOf rB 1 ((5 : Nat) : Int) z32 xB nB)).l = HdK.sm := smH_l
 rw [hl] at h
 exact h
theorem Sum_s (w : World) (hk : VarsH w) (hv : VarsI w) : Calls Tryz.prog 44 #[.agg (eA 5 nB)] w (RB (.tuple #[.agg smH.A, .int .i64 0]) w) := by
 have h := EntX.Sum_ok w (eA 5 nB) rB 1 ((5 : Nat) : Int) z32 xB nB (eP 5 nB) hv hk rB_z xB_z nB_z
 rw [EntL.check_n] at h
 exact h
theorem Sign_s (w0 w : World) (R : Nat) (v : Value) (h : RingAt w0 w R sS 1 0 v) (hk : VarsH w) (hv : VarsI w) :
 Calls Tryz.prog 18 #[.pointer (some ⟨R, 0, none⟩), .agg (hA 1 nB)] w fun e' w' => e' = .returned (.tuple #[.agg (hA 1 gH), .int .i64 0]) ∧ RingAt w0 w' R sS 1 1 v ∧ Ext (fun k => k = R) w w' := by
 have h1 := HdT.P_Sign w R sS 1 0 v _ (by decide) (by decide) (by decide) h.row h.lv.sl (fun k hk => (h.lv.lt k hk).2) hk (hA 1 nB) rB ((1 : Nat) : Int) 5 HdK.sm nB (hP 1 nB) hv rB_z nB_z check_n
 rw [text_n, sS_bl] at h1
 refine h1.mono ?_
 rintro e w' ⟨rfl, hr, hE⟩
 exact ⟨rfl, ⟨hr, h.lv.ext hE (fun k hk => by have := h.sep k hk; omega), h.ge, h.sep⟩, hE⟩
theorem Bytes_s (w : World) (hv : VarsI w) : Calls Tryz.prog 46 #[.agg (hA 1 gH)] w (RB (.tuple #[.string sH, .int .i64 0]) w) := by
 have h := HdT.P_Bytes w (hA 1 gH) rB ((1 : Nat) : Int) 5 HdK.sm gH (hP 1 gH) hv rB_z gH_z
 have hb : HdS.bytesW (hdOf rB ((1 : Nat) : Int) 5 HdK.sm gH) = (OctetS.list [HdK.TH1, HdK.G], 0) := by
  rw [HdT.hbytes_ok, check_1, if_pos rfl, text_1, if_pos HdK.TH1_len]
  unfold gH
  rw [of_hd, HdK.bytes1]
 rw [hb] at h
 exact h
theorem Parse_s (w : World) (hv : VarsI w) : Calls Tryz.prog 47 #[.string sH] w (RB (.tuple #[.agg (hA 1 gH), .int .i64 0]) w) := by
 have h := WireC.Parse_ok w sH (by have := sH_size; omega) hv
 have hp : WireS.parseH (bl sH) = some (HdK.hd 1 HdK.G) := by
  unfold sH
  rw [bl_bsOf]
  exact HdK.parse1
 rw [hp] at h
 exact h
theorem Read_s (w : World) (hv : VarsI w) : Calls Tryz.prog 48 #[.string sH] w (RB (.tuple #[.agg hdZ, .int .i64 6]) w) := by
 have h := WireC.Read_ok w sH (by have := sH_size; omega) hv
 have hp : WireS.readH (bl sH) = none := by
  unfold sH
  rw [bl_bsOf]
  exact HdK.read_two HdK.fits1 rfl
 rw [hp] at h
 exact h
theorem Check_s (w : World) (hv : VarsI w) : Calls Tryz.prog 49 #[.agg hdZ] w (RB (.int .i64 2) w) := by
 have h := HdT.P_Check w hdZ ⟨#[]⟩ 0 0 zero32 ⟨#[]⟩ ⟨rfl, rfl⟩ hv (by decide) (by decide +kernel)
 have hc : checkH (hdOf ⟨#[]⟩ 0 0 zero32 ⟨#[]⟩) = false := by decide +kernel
 rw [hc] at h
 exact h
theorem Verify_1 (w : World) (v : Value) (hk : VarsH w) (hv : VarsI w) (hg : Sl w v 36 1 ([gr].flatMap Gr'.cs)) : Calls Tryz.prog 16 #[v, .int .i64 2, .agg (hA 1 gH)] w (RB (.int .i64 0) w) := by
 refine HdT.P_Verify w (hA 1 gH) rB ((1 : Nat) : Int) 5 HdK.sm gH (hP 1 gH) hv rB_z gH_z check_1 v 2 0 (fun w' hb => ?_)
 rw [text_1]
 have h := BookE.Verify_yes w' v gr 2 5 (bsOf HdK.TH1) gH 1 gr_right rfl (hg.below hb) (found_yes _ (by decide) (by decide)) (by rw [size_bsOf]; have := HdK.TH1_len; omega) gH_size (by unfold gH; rw [bl_bsOf, HdK.G_head]; decide) (hk.below hb)
 have hc : climbOf 1 (bl (bsOf HdK.TH1)) (bl gH) = gr.rt.l := by
  unfold gH
  rw [bl_bsOf, bl_bsOf, HdK.climb1]
  exact (rootK_l _ _).symm
 rw [if_pos hc] at h
 exact h
theorem Verify_2 (w : World) (v : Value) (hk : VarsH w) (hv : VarsI w) (hg : Sl w v 36 1 ([gr].flatMap Gr'.cs)) : Calls Tryz.prog 16 #[v, .int .i64 2, .agg (hA 2 gH)] w (RB (.int .i64 9) w) := by
 refine HdT.P_Verify w (hA 2 gH) rB ((2 : Nat) : Int) 5 HdK.sm gH (hP 2 gH) hv rB_z gH_z check_2 v 2 9 (fun w' hb => ?_)
 rw [text_2]
 have h := BookE.Verify_yes w' v gr 2 5 (bsOf HdK.TH2) gH 1 gr_right rfl (hg.below hb) (found_yes _ (by decide) (by decide)) (by rw [size_bsOf]; have := HdK.TH2_len; omega) gH_size (by unfold gH; rw [bl_bsOf, HdK.G_head]; decide) (hk.below hb)
 have hc : ¬ climbOf 1 (bl (bsOf HdK.TH2)) (bl gH) = gr.rt.l := by
  unfold gH
  rw [bl_bsOf, bl_bsOf, show gr.rt.l = rootOf [115] 1 from rootK_l _ _]
  exact HdK.climb2
 rw [if_neg hc] at h
 exact h
theorem eq_hd {p : Array Value} {r : ByteArray} {ep ix : Int} {pv : List UInt8} {s : ByteArray} (hp : HdP p r ep ix pv s) (w : World) : (Op.equalIn 10000 47 (.agg p) (.agg p)).run Tryz.prog w = .ok true w := by
 rw [hp.eq, EqHd.eqHd _ _ _ _ _ _ _ _ _ _ hp.len hp.len, EqHash.hEq_self]
 simp
theorem eq_hash (x : H32) (w : World) : (Op.equalIn 10000 25 (.agg x.A) (.agg x.A)).run Tryz.prog w = .ok true w := by
 have h : x.A = ShaB.pB 32 x.l := by
  unfold H32.A
  exact EqEnt.pB_of x.len
 rw [h, EqHash.eqHash, EqHash.hEq_self]
theorem built_s : Tryz.prog.built 47 [(0, .string rB), (1, .int .i64 1), (2, .int .i64 5), (3, .agg smH.A)] = some (hA 1 nB) := HdT.built_hd rB 1 5 smH smH.A (hA 1 nB) rfl (by rw [smH_l]; rfl)
theorem hA_sum (ep : Nat) (s : ByteArray) (j : Nat) (u : Value) (h : smH.A.toList[j]? = some u) : (hA ep s)[3 + j]? = some u := by
 refine (hP ep s).cp j u ?_
 rw [← h]
 unfold H32.A
 rw [smH_l]
theorem wpList_load_rowOG {P : Program} {ops : Array Oper} {rest : List Oper} {o : Oper} {a : Act} {w : World} {Q : Exit → Act → World → Prop} (hw : Region.wanted o (yielded ops a.tmps) = true) (ty : TypeId) (x : Operand) (ho : o.op = .load ty x) (b off : Nat) (hx : a.eval x = .pointer (some ⟨b, off, none⟩)) (cs : Array Value)
 (hc : ∀ j v, cs.toList[j]? = some v → w.cell? ⟨b, off + j, none⟩ = some v) {d : TypeDesc}
 (hu : P.underlying ty = some d) (hd : (match d with | .struct _ | .array _ _ => true | _ => false) = true) (hi : (P.info? ty).map (·.size) = some cs.size) (h : wpList P ops Q rest (a.put o.dst (.agg cs)) w) : wpList P ops Q (o :: rest) a w := by
 unfold wpList
 rw [if_pos hw]
 exact .inl (wp_load_rowO ty x ho b off hx cs hc hu hd hi h)
/-! ### The ring's root -/
theorem Ring_Root (w0 w : World) (R n : Nat) (v : Value) (hR : RingAt w0 w R sS 1 n v) : Calls Tryz.prog 45 #[.pointer (some ⟨R, 0, none⟩)] w (RB (.agg (rootK [115] 1).A) w) := by
 obtain ⟨Rt, hRte⟩ := nXe ((rootK [115] 1).A)
 have HRtS := lh (show (Tryz.prog.info? 25).map (·.size) = some Rt.size by rw [hRte]; exact H32.info _)
 have HRtN := lh (show 32 = Rt.size by rw [hRte, H32.size])
 have HRtO := lh (show Rt.all (·.oneCell') = true by rw [hRte]; exact H32.one _)
 have hrow := hR.row
 have hrl := lt_row hrow
 have Hc0 : ∀ (j : Nat) (u : Value), Rt.toList[j]? = some u → w.cell? ⟨R, 4 + j, none⟩ = some u := by intro j u hu; rw [cell_row hrow, sS_bl, ringA_at, ← hRte, ← hu]; simp
 obtain ⟨Z, hZ⟩ := nXe (zeroH.A)
 have HLIT : Hid (zq0 Z) := lh (by rw [hZ]; unfold zq0; kernel_rfl)
 have HZN : Hid (Z.size = 32) := lh (by rw [hZ]; kernel_rfl)
 rw [← hRte]
 obtain ⟨w1, hw1⟩ := nXe (w.alloc (.cells Z 25))
 have hb1 : Below w.heap.size w w1 := by rw [hw1]; exact (Below.refl _ w).alloc (Nat.le_refl _) _
 have HZ1 := lh (show w1.heap[w.heap.size]? = some (.cells Z 25 (0, 0)) by rw [hw1]; exact heap_new _ _)
 have hr1 := (hb1.block _ hrl).trans hrow
 have Hcc := lh (show ∀ (j : Nat) (u : Value), Rt.toList[j]? = some u → w1.cell? ⟨R, 4 + j, none⟩ = some u by intro j u hu; rw [cell_row hr1, ← cell_row hrow]; exact Hc0 j u hu)
 obtain ⟨cr1, fr1⟩ := row_facts hr1
 have HBL1 := lh hb1
 have HW1 := lh hw1
 clear hw1 hb1 hr1 hrow Hc0 hRte hZ hR
 go_enter Tryz.func45, Tryz.ntmps45
 go_wp2_with (first | (rw [HLIT.out, ← HW1.out]; refine wpList_load_rowO rfl _ _ rfl R 4 rfl Rt Hcc.out Tryz.underlying25 rfl HRtS.out ?_) | (refine wpList_load_rowO rfl _ _ rfl R 4 rfl Rt Hcc.out Tryz.underlying25 rfl HRtS.out ?_) | (refine wpList_store_rowA rfl _ _ _ rfl w.heap.size Rt rfl rfl _ _ HZ1.out HRtS.out (by rw [HZN.out]; exact HRtN.out) HRtO.out ?_) | fail)
 intro wf hwf
 go_wp2
 refine bodyPost_ret (v := .agg Rt) (results_cell_row rfl _ _ w.heap.size _ Rt (0, 0) _ rfl (by rw [hwf.out]; exact setRow_at HZ1.out) Tryz.underlying25 rfl HRtS.out) rfl ⟨rfl, by rw [hwf.out]; exact below_row HBL1.out (Nat.le_refl _) _⟩
end Go.Proofs.YtkcikadgnnjjjaaGreatDoor.HdL
