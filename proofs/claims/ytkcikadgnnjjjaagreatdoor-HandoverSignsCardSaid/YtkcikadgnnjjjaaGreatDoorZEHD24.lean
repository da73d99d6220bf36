/-
  WHAT IS PROVED: a ring of the document's that has room signs, and goes on. how any entry, head, or deal is signed by any ring, by the document. Condition: what each theorem names.
-/
import Derived.Test.YtkcikadgnnjjjaaGreatDoorS0
import Derived.Test.YtkcikadgnnjjjaaGreatDoorZEHD23
import Derived.Deep.CutRange
set_option linter.unusedVariables false
set_option linter.unusedSimpArgs false
set_option maxRecDepth 100000
set_option maxHeartbeats 4000000
namespace Go.Proofs.YtkcikadgnnjjjaaGreatDoor.RkO
open Go Go.RowKit Go.Shelf OctetS IdentS OctP OctQ OctG RowsX Lift ShaS KeyS ShaA ShaB Steps KeyA KeyB KeyG KeyI KeyK TreeA TreeB TreeE TreeF TreeG RkA RkC RkF RkM
theorem conv_at (w : World) (B j : Nat) (hB : w.heap[B]? = some (.cells #[.int .u8 (j : Int)] 5 (0, 0))) (hj : j < 256) : (convert 101 9 (.slice (some ⟨B, 0, none⟩) 1 1)).run Tryz.prog w = .ok (.string (bsOf [UInt8.ofNat j])) w := by
 have hb : ((UInt8.ofNat j).toNat : Int) = (j : Int) := by rw [UInt8.toNat_ofNat']; omega
 have h := EventB.sl_built (n := 1) hB rfl (by unfold maxLen; omega)
 refine run_text' _ 101 9 5 Tryz.underlying101 Tryz.underlying5 Tryz.underlying9 _ [UInt8.ofNat j] ?_
 show Sl _ _ 1 1 [.int .u8 ((UInt8.ofNat j).toNat : Int)]
 rw [hb]
 exact h
theorem Sign2_ok (w : World) (s text : ByteArray) (h nx : Nat) (v : Value) (hs : s.size ≤ 64) (ht : text.size ≤ 140737488351232) (hh : h ≤ 7) (hn : nx < 2 ^ h) (hv : Sl w v 32 (2 ^ h) ((leavesH (bl s) (2 ^ h)).flatMap H32.cs)) :
  Calls Tryz.prog 41 #[.agg (ring2 s h nx v), .string text] w (RB (.tuple #[.agg (ring2 s h (nx + 1 : Nat) v), .string (bsOf (sigOf (bl s) h nx (bl text))), .int .i64 0]) w) := by
 have hP : ∀ w : World, Calls Tryz.prog 32 #[.int .i64 h] w (fun e w' => e = .returned (.int .i64 (2 ^ h : Nat)) ∧ w' = w) := fun w => (places2_ok w h hh).mono fun _ _ ⟨a, b⟩ => ⟨a, b.symm⟩
 have hlv := leavesH_length (bl s) (2 ^ h)
 have hSd := fun w => seed2_ok w s h nx nx (by have := Nat.pow_le_pow_right (by omega : 0 < 2) hh; omega) (by omega)
 have hn7 : nx < 128 := Nat.lt_of_lt_of_le hn (by have := Nat.pow_le_pow_right (by omega : 0 < 2) hh; omega)
 obtain ⟨L, hL⟩ := nXe (leavesH (bl s) (2 ^ h))
 rw [← hL] at hlv hv
 have hPt := fun w' (hb : Below w.heap.size w w') => RkD.Path2_ok h hh w' v L nx hlv hn (by rw [hlv]; exact hv.below hb)
 have hPl := TreeG.pathH_length h L nx
 have hPm := TreeG.pathH_l h L nx hlv hn
 rw [hL, leavesH_l, ← hL] at hPm
 obtain ⟨Ph, hPh⟩ := nXe (TreeG.pathH h L nx)
 rw [← hPh] at hPt hPl hPm
 obtain ⟨Sd, hSde⟩ := nXe (bsOf (placeSeed (bl s) nx))
 have hSdz : Sd.size ≤ 1000 := by rw [hSde, size_bsOf]; unfold placeSeed; rw [mid_length]; omega
 rw [← hSde] at hSd
 have hSg := fun w => RkB.Sign2_ok w Sd text hSdz ht
 obtain ⟨T, hT⟩ := nXe (bsOf (KeyS.sign (bl Sd) (bl text)))
 have hTz : T.size = 1088 := by rw [hT, size_bsOf, sign_length]
 have hTb : bl T = KeyS.sign (placeSeed (bl s) nx) (bl text) := by rw [hT, bl_bsOf, hSde, bl_bsOf]
 rw [← hT] at hSg
 obtain ⟨B, hB⟩ := nXe (bsOf (sigOf (bl s) h nx (bl text)))
 have hBe : B = bsOf (UInt8.ofNat nx :: (bl T ++ Ph.flatMap H32.l)) := by rw [hB, hTb]; unfold sigOf; rw [← hPm, List.flatMap_def]
 rw [← hB]
 obtain ⟨u, hu⟩ := nXe (bsOf [UInt8.ofNat nx])
 have hus : u.size = 1 := by rw [hu]; rfl
 have hub : bl u = [UInt8.ofNat nx] := by rw [hu, bl_bsOf]
 obtain ⟨SG, hSG⟩ := nXe (u ++ T)
 have hSGz : SG.size = 1089 := by rw [hSG, ByteArray.size_append]; omega
 have hSGb : bl SG = UInt8.ofNat nx :: bl T := by rw [hSG, RkB.cat_bl, hub]; rfl
 have hcv : ∀ (W : World) (k : Nat), W.heap[k]? = some (.cells #[.int .u8 (nx : Int)] 5 (0, 0)) → (convert 101 9 (.slice (some ⟨k, 0, none⟩) 1 1)).run Tryz.prog W = .ok (.string u) W := fun W k hk => by rw [hu]; exact conv_at W k nx hk (by omega)
 obtain ⟨M, hM⟩ := nXe (2 ^ h)
 rw [← hM] at hn hv hlv hP
 have hd1 : decide ((nx : Int) = (M : Int)) = false := decide_eq_false (by omega)
 have hd2 : decide (nx = M) = false := decide_eq_false (by omega)
 have hne : ¬ nx = M := by omega
 obtain ⟨a, cap, rfl, hcap, hcm⟩ := hv.form
 obtain ⟨E, hE⟩ := nXe (ring2 s h (nx : Int) (.slice a M cap))
 obtain ⟨E2, hE2⟩ := nXe (ring2 s h ((nx + 1 : Nat) : Int) (.slice a M cap))
 obtain ⟨K, hK⟩ := nXe (kyA s h nx)
 rw [← hK] at hSd
 rw [← hE, ← hE2]
 have hEn : E.size = 4 := by rw [hE]; rfl
 have HES := lh (show (Tryz.prog.info? 40).map (·.size) = some E.size by rw [hEn]; kernel_rfl)
 have HE2S := lh (show (Tryz.prog.info? 40).map (·.size) = some E2.size by rw [hE2]; kernel_rfl)
 have HKS := lh (show (Tryz.prog.info? 23).map (·.size) = some K.size by rw [hK]; kernel_rfl)
 have p0 : ∀ (j : Nat) (x : Value), K.toList[j]? = some x → E[0 + j]? = some x := by
  intro j x hx
  rw [hK] at hx
  rw [hE, Nat.zero_add]
  match j, hx with
  | 0, hx => exact hx
  | 1, hx => exact hx
  | 2, hx => exact hx
  | (k + 3), hx => simp [kyA] at hx
 have p1 : E[1]? = some (.int .i64 (h : Int)) := by rw [hE]; rfl
 have p2 : E[2]? = some (.int .i64 (nx : Int)) := by rw [hE]; rfl
 have p3 : E[3]? = some (.slice a M cap) := by rw [hE]; rfl
 have pset : E.setIfInBounds 2 (.int .i64 ((nx : Int) + 1)) = E2 := by rw [hE, hE2, show ((nx + 1 : Nat) : Int) = (nx : Int) + 1 by omega]; rfl
 obtain ⟨w0, hw0⟩ := nXe (w.alloc (.cells E 40))
 have hb0 : Below w.heap.size w w0 := by rw [hw0]; exact (Below.refl _ w).alloc (Nat.le_refl _) _
 have hx0 : w0.heap[w.heap.size]? = some (.cells E 40 (0, 0)) := by rw [hw0]; exact heap_new _ _
 obtain ⟨Z, hZ⟩ : ∃ Z : Array Value, Z = #[.string ⟨#[]⟩, .int .i64 0, .int .i64 0, .slice none 0 0] := ⟨_, rfl⟩
 obtain ⟨w1, hw1⟩ := nXe (w0.alloc (.cells Z 40))
 have hb1 : Below w.heap.size w w1 := hb0.trans (by rw [hw1]; exact ((Below.refl _ w0).alloc (Nat.le_refl _) _).mono hb0.size)
 have hx1 : w1.heap[w.heap.size]? = some (.cells E 40 (0, 0)) := by rw [hw1]; exact (((Below.refl w0.heap.size w0).alloc (Nat.le_refl _) _).block _ (lt_row hx0)).trans hx0
 have c1 : w1.cell? ⟨w.heap.size, 1, none⟩ = some (.int .i64 (h : Int)) := (cell_row hx1).trans p1
 have c2 : w1.cell? ⟨w.heap.size, 2, none⟩ = some (.int .i64 (nx : Int)) := (cell_row hx1).trans p2
 have HX1 := lh hx1
 have hws : w0.heap.size = w.heap.size + 1 := by rw [hw0]; exact Array.size_push ..
 have HY1 := lh (show w1.heap[w.heap.size + 1]? = some (.cells Z 40 (0, 0)) by rw [hw1, ← hws]; exact heap_new _ _)
 have HZn := lh (show Z.size = E2.size by rw [hZ, hE2]; rfl)
 have HE2O := lh (show E2.all (·.oneCell') = true by rw [hE2]; simp [ring2, Value.oneCell'])
 have HB1 := lh hb1
 have HW1 := lh (show w1 = (w.alloc (.cells E 40)).alloc (.cells #[.string ⟨#[]⟩, .int .i64 0, .int .i64 0, .slice none 0 0] 40) by rw [hw1, hw0, hZ])
 have HP := lh hP
 have HPt := lh hPt
 have HPl := lh hPl
 have HSd := lh hSd
 have HSg := lh hSg
 have HTz := lh hTz
 have HBe := lh hBe
 have HSG := lh hSG
 have HSGz := lh hSGz
 have HSGb := lh hSGb
 have HCV := lh hcv
 have HP0 := lh p0
 have HP2 := lh p2
 have HP3 := lh p3
 have HPS := lh pset
 have hutl : ¬ 9223372036854775807 < u.size + T.size := by omega
 have hutl2 : ¬ 9223372036854775807 < 1 + T.size := by omega
 have hk8 : IntKind.u8.wrap (nx : Int) = (nx : Int) := by rw [IntKind.wrap_u8']; omega
 have hwr1 : IntKind.i64.wrap ((nx : Int) + 1) = (nx : Int) + 1 := by rw [IntKind.wrap_i64]; omega
 clear hx0 hb0 hw0 hx1 hb1 hw1 hE hE2 hK hP hM hv hZ hPt hPl hPm hSd hSg hTb hT hBe hB hL hlv hSde hPh hSG hSGz hSGb hub hu hcv p0 p1 p2 p3 pset hTz
 go_enter Tryz.func41, Tryz.ntmps41
 go_wp2_with fail
 rw [← HW1.out]
 go_quiet (exact Calls.quiet_of_same (HP.out _))
 rename_i nq _
 obtain ⟨w2, hw2⟩ := nXe (w1.drewN nq)
 have HX2 := lh (show w2.heap[w.heap.size]? = some (.cells E 40 (0, 0)) by rw [hw2]; exact HX1.out)
 have HB2 := lh (show Below w.heap.size w w2 by rw [hw2]; exact below_drewN HB1.out _)
 have HY2 := lh (show w2.heap[w.heap.size + 1]? = some (.cells Z 40 (0, 0)) by rw [hw2]; exact HY1.out)
 rw [← hw2]
 clear hw2 c1 c2
 go_upto_region 3 with fail
 go_cut [7] from 21 to 35 (fun t7 wx => t7 = .string SG ∧ Below w.heap.size w wx ∧ wx.heap[w.heap.size]? = some (.cells E 40 (0, 0)) ∧ wx.heap[w.heap.size + 1]? = some (.cells Z 40 (0, 0)))
 case first =>
  refine wp_region_noPanic ?_
  refine wp_region_held (S := (fun W => W.heap[w.heap.size]? = some (.cells E 40 (0, 0)) ∧ W.heap[w.heap.size + 1]? = some (.cells Z 40 (0, 0)))) (by kernel_rfl) ?_
  change wpAnyH _ _ _ _ _ _ _ _ (World.drew w2)
  have hS0 : (World.drew w2).heap[w.heap.size]? = some (.cells E 40 (0, 0)) ∧ (World.drew w2).heap[w.heap.size + 1]? = some (.cells Z 40 (0, 0)) := ⟨HX2.out, HY2.out⟩
  have HQ0 := lh (show Below w.heap.size w (World.drew w2) from HB2.out.drew)
  refine tkH (i := 0) (v := ?_) rfl (.inl ⟨by rfl, ?_⟩) hS0 ?_
  rotate_left
  ·intro wq hSw
   have qc : wq.cell? ⟨w.heap.size, 2, none⟩ = some (.int .i64 (nx : Int)) := (cell_row hSw.1).trans HP2.out
   go_simp
   rfl
  simp only [Act.put, sxx]
  refine tkH (i := 1) (v := ?_) rfl (.inl ⟨by rfl, ?_⟩) hS0 ?_
  rotate_left
  ·intro wq hSw
   have qc : wq.cell? ⟨w.heap.size, 2, none⟩ = some (.int .i64 (nx : Int)) := (cell_row hSw.1).trans HP2.out
   go_simp
   rfl
  simp only [Act.put, sxx]
  refine tkH (i := 2) (v := ?_) rfl (.inl ⟨by rfl, ?_⟩) hS0 ?_
  rotate_left
  ·intro wq hSw
   have qc : wq.cell? ⟨w.heap.size, 2, none⟩ = some (.int .i64 (nx : Int)) := (cell_row hSw.1).trans HP2.out
   go_simp
   rfl
  simp only [Act.put, sxx]
  refine tkH (i := 3) (v := ?_) rfl (.inl ⟨by rfl, ?_⟩) hS0 ?_
  rotate_left
  ·intro wq hSw
   have qc : wq.cell? ⟨w.heap.size, 2, none⟩ = some (.int .i64 (nx : Int)) := (cell_row hSw.1).trans HP2.out
   go_simp
   rfl
  simp only [Act.put, sxx]
  refine tkH (i := 6) (v := ?_) rfl (.inl ⟨by rfl, ?_⟩) hS0 ?_
  rotate_left
  ·intro wq hSw
   have qc : wq.cell? ⟨w.heap.size, 2, none⟩ = some (.int .i64 (nx : Int)) := (cell_row hSw.1).trans HP2.out
   go_simp
   rfl
  simp only [Act.put, sxx]
  refine tkH (i := 7) (v := .agg K) rfl (.inl ⟨by rfl, fun wq hSw => BkC.exec_load_rowO 23 _ rfl w.heap.size 0 rfl K (fun j x hx => (cell_row hSw.1).trans (HP0.out j x hx)) Tryz.underlying23 rfl HKS.out⟩) hS0 ?_
  simp only [Act.put, sxx]
  refine tkH (i := 8) (v := ?_) rfl (.inl ⟨by rfl, ?_⟩) hS0 ?_
  rotate_left
  ·intro wq hSw
   have qc : wq.cell? ⟨w.heap.size, 2, none⟩ = some (.int .i64 (nx : Int)) := (cell_row hSw.1).trans HP2.out
   go_simp
   rfl
  simp only [Act.put, sxx]
  refine tkH (i := 9) (v := ?_) rfl (.inl ⟨by rfl, ?_⟩) hS0 ?_
  rotate_left
  ·intro wq hSw
   have qc : wq.cell? ⟨w.heap.size, 2, none⟩ = some (.int .i64 (nx : Int)) := (cell_row hSw.1).trans HP2.out
   go_simp
   rfl
  simp only [Act.put, sxx]
  refine tkH (i := 10) (v := ?_) rfl (.inl ⟨by rfl, ?_⟩) hS0 ?_
  rotate_left
  ·intro wq hSw
   have qc : wq.cell? ⟨w.heap.size, 2, none⟩ = some (.int .i64 (nx : Int)) := (cell_row hSw.1).trans HP2.out
   go_simp
   rfl
  simp only [Act.put, sxx]
  refine tkH (i := 12) (v := ?_) rfl (.inl ⟨by rfl, ?_⟩) hS0 ?_
  rotate_left
  ·intro wq hSw
   have qc : wq.cell? ⟨w.heap.size, 2, none⟩ = some (.int .i64 (nx : Int)) := (cell_row hSw.1).trans HP2.out
   go_simp
   rfl
  simp only [Act.put, sxx]
  refine wpAnyH_all (rs := [4, 11]) (by kernel_rfl) (by simp) ?_
  intro i hi
  simp only [List.mem_cons, List.not_mem_nil, or_false] at hi
  rcases hi with rfl | rfl
  ·skip
   refine wpOp_run rfl (by rfl) (w' := (World.drew w2).alloc (.cells #[.int .u8 (nx : Int)] 5)) (v := .slice (some ⟨w2.heap.size, 0, none⟩) 1 1) (by go_simp; first | done | rfl) ?_
   obtain ⟨x1, hw⟩ := nXe ((World.drew w2).alloc (.cells #[.int .u8 (nx : Int)] 5))
   rw [← hw]
   have hb : Below (World.drew w2).heap.size (World.drew w2) x1 := by rw [hw]; exact bAx
   have HN1 := lh (show x1.heap[w2.heap.size]? = some (.cells #[.int .u8 (nx : Int)] 5 (0, 0)) by rw [hw]; exact heap_new' _ rfl)
   clear hw
   have hS1 : x1.heap[w.heap.size]? = some (.cells E 40 (0, 0)) ∧ x1.heap[w.heap.size + 1]? = some (.cells Z 40 (0, 0)) := ⟨(hb.block _ (lt_row hS0.1)).trans hS0.1, (hb.block _ (lt_row hS0.2)).trans hS0.2⟩
   have HQ1 := tbB HQ0 hb
   clear hb
   refine ⟨hS1, ?_⟩
   simp only [Act.put, sxx]
   refine wpAnyH_all (rs := [5, 11]) (by kernel_rfl) (by simp) ?_
   intro i hi
   simp only [List.mem_cons, List.not_mem_nil, or_false] at hi
   rcases hi with rfl | rfl
   ·skip
    have hcv := HCV.out x1 _ HN1.out
    refine wpOp_run rfl (by rfl) (w' := x1) (v := .string u) (by go_simp; first | done | (rw [hcv]; done) | (rw [hcv]; rfl) | simp [hcv]) ?_
    clear hcv
    refine ⟨hS1, ?_⟩
    simp only [Act.put, sxx]
    refine aOne (r := 11) ?_
    refine wpOp_call rfl (by rfl) (by go_simp; all_goals (and_intros <;> rfl)) ?_
    refine (HSd.out x1).mono ?_
    rintro e x3 ⟨rfl, hb⟩
    have hS3 : x3.heap[w.heap.size]? = some (.cells E 40 (0, 0)) ∧ x3.heap[w.heap.size + 1]? = some (.cells Z 40 (0, 0)) := ⟨(hb.block _ (lt_row hS1.1)).trans hS1.1, (hb.block _ (lt_row hS1.2)).trans hS1.2⟩
    have HQ3 := tbB HQ1 hb
    clear hb
    refine ⟨_, rfl, ?_, ?_⟩
    ·exact hS3
    simp only [Act.put, sxx]
    refine aOne (r := 13) ?_
    refine wpOp_call rfl (by rfl) (by go_simp; all_goals (and_intros <;> rfl)) ?_
    refine (HSg.out x3).mono ?_
    rintro e x4 ⟨rfl, hb⟩
    have hS4 : x4.heap[w.heap.size]? = some (.cells E 40 (0, 0)) ∧ x4.heap[w.heap.size + 1]? = some (.cells Z 40 (0, 0)) := ⟨(hb.block _ (lt_row hS3.1)).trans hS3.1, (hb.block _ (lt_row hS3.2)).trans hS3.2⟩
    have HQ4 := tbB HQ3 hb
    clear hb
    refine ⟨_, rfl, ?_, ?_⟩
    ·exact hS4
    simp only [Act.put, sxx]
    refine tkH (i := 14) (v := ?_) rfl (.inl ⟨by rfl, ?_⟩) hS4 ?_
    rotate_left
    ·intro wq hSw
     go_simp
     rfl
    simp only [Act.put, sxx]
    refine tkH (i := 15) (v := ?_) rfl (.inl ⟨by rfl, ?_⟩) hS4 ?_
    rotate_left
    ·intro wq hSw
     go_simp
     rfl
    simp only [Act.put, sxx]
    refine wpAnyH_done (by kernel_rfl) (NoPanic.normal ?_) _
    go_wp2_with fail
    go_meet
    exact ⟨congrArg Value.string HSG.out.symm, HQ4.out, hS4⟩
   ·skip
    refine wpOp_call rfl (by rfl) (by go_simp; all_goals (and_intros <;> rfl)) ?_
    refine (HSd.out x1).mono ?_
    rintro e x5 ⟨rfl, hb⟩
    have HN5 := kpB hb HN1
    have hS5 : x5.heap[w.heap.size]? = some (.cells E 40 (0, 0)) ∧ x5.heap[w.heap.size + 1]? = some (.cells Z 40 (0, 0)) := ⟨(hb.block _ (lt_row hS1.1)).trans hS1.1, (hb.block _ (lt_row hS1.2)).trans hS1.2⟩
    have HQ5 := tbB HQ1 hb
    clear hb
    refine ⟨_, rfl, ?_, ?_⟩
    ·exact hS5
    simp only [Act.put, sxx]
    refine wpAnyH_all (rs := [5, 13]) (by kernel_rfl) (by simp) ?_
    intro i hi
    simp only [List.mem_cons, List.not_mem_nil, or_false] at hi
    rcases hi with rfl | rfl
    ·skip
     have hcv := HCV.out x5 _ HN5.out
     refine wpOp_run rfl (by rfl) (w' := x5) (v := .string u) (by go_simp; first | done | (rw [hcv]; done) | (rw [hcv]; rfl) | simp [hcv]) ?_
     clear hcv
     refine ⟨hS5, ?_⟩
     simp only [Act.put, sxx]
     refine aOne (r := 13) ?_
     refine wpOp_call rfl (by rfl) (by go_simp; all_goals (and_intros <;> rfl)) ?_
     refine (HSg.out x5).mono ?_
     rintro e x7 ⟨rfl, hb⟩
     have hS7 : x7.heap[w.heap.size]? = some (.cells E 40 (0, 0)) ∧ x7.heap[w.heap.size + 1]? = some (.cells Z 40 (0, 0)) := ⟨(hb.block _ (lt_row hS5.1)).trans hS5.1, (hb.block _ (lt_row hS5.2)).trans hS5.2⟩
     have HQ7 := tbB HQ5 hb
     clear hb
     refine ⟨_, rfl, ?_, ?_⟩
     ·exact hS7
     simp only [Act.put, sxx]
     refine tkH (i := 14) (v := ?_) rfl (.inl ⟨by rfl, ?_⟩) hS7 ?_
     rotate_left
     ·intro wq hSw
      go_simp
      rfl
     simp only [Act.put, sxx]
     refine tkH (i := 15) (v := ?_) rfl (.inl ⟨by rfl, ?_⟩) hS7 ?_
     rotate_left
     ·intro wq hSw
      go_simp
      rfl
     simp only [Act.put, sxx]
     refine wpAnyH_done (by kernel_rfl) (NoPanic.normal ?_) _
     go_wp2_with fail
     go_meet
     exact ⟨congrArg Value.string HSG.out.symm, HQ7.out, hS7⟩
    ·skip
     refine wpOp_call rfl (by rfl) (by go_simp; all_goals (and_intros <;> rfl)) ?_
     refine (HSg.out x5).mono ?_
     rintro e x8 ⟨rfl, hb⟩
     have HN8 := kpB hb HN5
     have hS8 : x8.heap[w.heap.size]? = some (.cells E 40 (0, 0)) ∧ x8.heap[w.heap.size + 1]? = some (.cells Z 40 (0, 0)) := ⟨(hb.block _ (lt_row hS5.1)).trans hS5.1, (hb.block _ (lt_row hS5.2)).trans hS5.2⟩
     have HQ8 := tbB HQ5 hb
     clear hb
     refine ⟨_, rfl, ?_, ?_⟩
     ·exact hS8
     simp only [Act.put, sxx]
     refine aOne (r := 5) ?_
     have hcv := HCV.out x8 _ HN8.out
     refine wpOp_run rfl (by rfl) (w' := x8) (v := .string u) (by go_simp; first | done | (rw [hcv]; done) | (rw [hcv]; rfl) | simp [hcv]) ?_
     clear hcv
     refine ⟨hS8, ?_⟩
     simp only [Act.put, sxx]
     refine tkH (i := 14) (v := ?_) rfl (.inl ⟨by rfl, ?_⟩) hS8 ?_
     rotate_left
     ·intro wq hSw
      go_simp
      rfl
     simp only [Act.put, sxx]
     refine tkH (i := 15) (v := ?_) rfl (.inl ⟨by rfl, ?_⟩) hS8 ?_
     rotate_left
     ·intro wq hSw
      go_simp
      rfl
     simp only [Act.put, sxx]
     refine wpAnyH_done (by kernel_rfl) (NoPanic.normal ?_) _
     go_wp2_with fail
     go_meet
     exact ⟨congrArg Value.string HSG.out.symm, HQ8.out, hS8⟩
  ·skip
   refine wpOp_call rfl (by rfl) (by go_simp; all_goals (and_intros <;> rfl)) ?_
   refine (HSd.out (World.drew w2)).mono ?_
   rintro e x10 ⟨rfl, hb⟩
   have hS10 : x10.heap[w.heap.size]? = some (.cells E 40 (0, 0)) ∧ x10.heap[w.heap.size + 1]? = some (.cells Z 40 (0, 0)) := ⟨(hb.block _ (lt_row hS0.1)).trans hS0.1, (hb.block _ (lt_row hS0.2)).trans hS0.2⟩
   have HQ10 := tbB HQ0 hb
   clear hb
   refine ⟨_, rfl, ?_, ?_⟩
   ·exact hS10
   simp only [Act.put, sxx]
   refine wpAnyH_all (rs := [4, 13]) (by kernel_rfl) (by simp) ?_
   intro i hi
   simp only [List.mem_cons, List.not_mem_nil, or_false] at hi
   rcases hi with rfl | rfl
   ·skip
    refine wpOp_run rfl (by rfl) (w' := x10.alloc (.cells #[.int .u8 (nx : Int)] 5)) (v := .slice (some ⟨x10.heap.size, 0, none⟩) 1 1) (by go_simp; first | done | rfl) ?_
    obtain ⟨x11, hw⟩ := nXe (x10.alloc (.cells #[.int .u8 (nx : Int)] 5))
    rw [← hw]
    have hb : Below x10.heap.size x10 x11 := by rw [hw]; exact bAx
    have HN11 := lh (show x11.heap[x10.heap.size]? = some (.cells #[.int .u8 (nx : Int)] 5 (0, 0)) by rw [hw]; exact heap_new' _ rfl)
    clear hw
    have hS11 : x11.heap[w.heap.size]? = some (.cells E 40 (0, 0)) ∧ x11.heap[w.heap.size + 1]? = some (.cells Z 40 (0, 0)) := ⟨(hb.block _ (lt_row hS10.1)).trans hS10.1, (hb.block _ (lt_row hS10.2)).trans hS10.2⟩
    have HQ11 := tbB HQ10 hb
    clear hb
    refine ⟨hS11, ?_⟩
    simp only [Act.put, sxx]
    refine wpAnyH_all (rs := [5, 13]) (by kernel_rfl) (by simp) ?_
    intro i hi
    simp only [List.mem_cons, List.not_mem_nil, or_false] at hi
    rcases hi with rfl | rfl
    ·skip
     have hcv := HCV.out x11 _ HN11.out
     refine wpOp_run rfl (by rfl) (w' := x11) (v := .string u) (by go_simp; first | done | (rw [hcv]; done) | (rw [hcv]; rfl) | simp [hcv]) ?_
     clear hcv
     refine ⟨hS11, ?_⟩
     simp only [Act.put, sxx]
     refine aOne (r := 13) ?_
     refine wpOp_call rfl (by rfl) (by go_simp; all_goals (and_intros <;> rfl)) ?_
     refine (HSg.out x11).mono ?_
     rintro e x13 ⟨rfl, hb⟩
     have hS13 : x13.heap[w.heap.size]? = some (.cells E 40 (0, 0)) ∧ x13.heap[w.heap.size + 1]? = some (.cells Z 40 (0, 0)) := ⟨(hb.block _ (lt_row hS11.1)).trans hS11.1, (hb.block _ (lt_row hS11.2)).trans hS11.2⟩
     have HQ13 := tbB HQ11 hb
     clear hb
     refine ⟨_, rfl, ?_, ?_⟩
     ·exact hS13
     simp only [Act.put, sxx]
     refine tkH (i := 14) (v := ?_) rfl (.inl ⟨by rfl, ?_⟩) hS13 ?_
     rotate_left
     ·intro wq hSw
      go_simp
      rfl
     simp only [Act.put, sxx]
     refine tkH (i := 15) (v := ?_) rfl (.inl ⟨by rfl, ?_⟩) hS13 ?_
     rotate_left
     ·intro wq hSw
      go_simp
      rfl
     simp only [Act.put, sxx]
     refine wpAnyH_done (by kernel_rfl) (NoPanic.normal ?_) _
     go_wp2_with fail
     go_meet
     exact ⟨congrArg Value.string HSG.out.symm, HQ13.out, hS13⟩
    ·skip
     refine wpOp_call rfl (by rfl) (by go_simp; all_goals (and_intros <;> rfl)) ?_
     refine (HSg.out x11).mono ?_
     rintro e x14 ⟨rfl, hb⟩
     have HN14 := kpB hb HN11
     have hS14 : x14.heap[w.heap.size]? = some (.cells E 40 (0, 0)) ∧ x14.heap[w.heap.size + 1]? = some (.cells Z 40 (0, 0)) := ⟨(hb.block _ (lt_row hS11.1)).trans hS11.1, (hb.block _ (lt_row hS11.2)).trans hS11.2⟩
     have HQ14 := tbB HQ11 hb
     clear hb
     refine ⟨_, rfl, ?_, ?_⟩
     ·exact hS14
     simp only [Act.put, sxx]
     refine aOne (r := 5) ?_
     have hcv := HCV.out x14 _ HN14.out
     refine wpOp_run rfl (by rfl) (w' := x14) (v := .string u) (by go_simp; first | done | (rw [hcv]; done) | (rw [hcv]; rfl) | simp [hcv]) ?_
     clear hcv
     refine ⟨hS14, ?_⟩
     simp only [Act.put, sxx]
     refine tkH (i := 14) (v := ?_) rfl (.inl ⟨by rfl, ?_⟩) hS14 ?_
     rotate_left
     ·intro wq hSw
      go_simp
      rfl
     simp only [Act.put, sxx]
     refine tkH (i := 15) (v := ?_) rfl (.inl ⟨by rfl, ?_⟩) hS14 ?_
     rotate_left
     ·intro wq hSw
      go_simp
      rfl
     simp only [Act.put, sxx]
     refine wpAnyH_done (by kernel_rfl) (NoPanic.normal ?_) _
     go_wp2_with fail
     go_meet
     exact ⟨congrArg Value.string HSG.out.symm, HQ14.out, hS14⟩
   ·skip
    refine wpOp_call rfl (by rfl) (by go_simp; all_goals (and_intros <;> rfl)) ?_
    refine (HSg.out x10).mono ?_
    rintro e x16 ⟨rfl, hb⟩
    have hS16 : x16.heap[w.heap.size]? = some (.cells E 40 (0, 0)) ∧ x16.heap[w.heap.size + 1]? = some (.cells Z 40 (0, 0)) := ⟨(hb.block _ (lt_row hS10.1)).trans hS10.1, (hb.block _ (lt_row hS10.2)).trans hS10.2⟩
    have HQ16 := tbB HQ10 hb
    clear hb
    refine ⟨_, rfl, ?_, ?_⟩
    ·exact hS16
    simp only [Act.put, sxx]
    refine aOne (r := 4) ?_
    refine wpOp_run rfl (by rfl) (w' := x16.alloc (.cells #[.int .u8 (nx : Int)] 5)) (v := .slice (some ⟨x16.heap.size, 0, none⟩) 1 1) (by go_simp; first | done | rfl) ?_
    obtain ⟨x17, hw⟩ := nXe (x16.alloc (.cells #[.int .u8 (nx : Int)] 5))
    rw [← hw]
    have hb : Below x16.heap.size x16 x17 := by rw [hw]; exact bAx
    have HN17 := lh (show x17.heap[x16.heap.size]? = some (.cells #[.int .u8 (nx : Int)] 5 (0, 0)) by rw [hw]; exact heap_new' _ rfl)
    clear hw
    have hS17 : x17.heap[w.heap.size]? = some (.cells E 40 (0, 0)) ∧ x17.heap[w.heap.size + 1]? = some (.cells Z 40 (0, 0)) := ⟨(hb.block _ (lt_row hS16.1)).trans hS16.1, (hb.block _ (lt_row hS16.2)).trans hS16.2⟩
    have HQ17 := tbB HQ16 hb
    clear hb
    refine ⟨hS17, ?_⟩
    simp only [Act.put, sxx]
    refine aOne (r := 5) ?_
    have hcv := HCV.out x17 _ HN17.out
    refine wpOp_run rfl (by rfl) (w' := x17) (v := .string u) (by go_simp; first | done | (rw [hcv]; done) | (rw [hcv]; rfl) | simp [hcv]) ?_
    clear hcv
    refine ⟨hS17, ?_⟩
    simp only [Act.put, sxx]
    refine tkH (i := 14) (v := ?_) rfl (.inl ⟨by rfl, ?_⟩) hS17 ?_
    rotate_left
    ·intro wq hSw
     go_simp
     rfl
    simp only [Act.put, sxx]
    refine tkH (i := 15) (v := ?_) rfl (.inl ⟨by rfl, ?_⟩) hS17 ?_
    rotate_left
    ·intro wq hSw
     go_simp
     rfl
    simp only [Act.put, sxx]
    refine wpAnyH_done (by kernel_rfl) (NoPanic.normal ?_) _
    go_wp2_with fail
    go_meet
    exact ⟨congrArg Value.string HSG.out.symm, HQ17.out, hS17⟩
 case rest =>
  obtain ⟨rfl, hb3, hx3, hy3⟩ := hcut
  have c1 : wc.cell? ⟨w.heap.size, 2, none⟩ = some (.int .i64 (nx : Int)) := (cell_row hx3).trans HP2.out
  have c3 : wc.cell? ⟨w.heap.size, 3, none⟩ = some (.slice a M cap) := (cell_row hx3).trans HP3.out
  have HB3 := lh hb3
  have HX3 := lh hx3
  have HY3 := lh hy3
  clear hb3 hx3 hy3
  go_wp2_with fail
  refine (HPt.out wc HB3.out).mono ?_
  rintro e w4 ⟨v', rfl, hA⟩
  have HA := lh hA
  obtain ⟨a', cap', rfl, _, _⟩ := hA.sl.form
  rw [HPl.out] at HA ⊢
  have hb4 := hA.bel
  have HB4 := tbB HB3 hb4
  have HX4 := kpB hb4 HX3
  have HY4 := kpB hb4 HY3
  clear hA hb4 c1 c3
  go_wp2
  go_loopw [7, 47] (fun q i wr => ∃ (k : Nat) (X : ByteArray), q = .string X ∧ i = .int .i64 k ∧ k ≤ h ∧ X.size = 1089 + 32 * k ∧ Hid (bl X = UInt8.ofNat nx :: (bl T ++ (Ph.take k).flatMap H32.l)) ∧ Below w4.heap.size w4 wr) (fun _ i _ => h - (intOf i).toNat)
  case atStart => exact ⟨0, _, rfl, rfl, by omega, HSGz.out, lh (by rw [HSGb.out]; simp), Below.refl _ _⟩
  case round =>
   obtain ⟨k, X, rfl, rfl, hk, hXs, hX, hb⟩ := hrel
   have HA5 := lh (HA.out.sl.below hb)
   have HB := lh hb
   have HX : Hid (bl X = UInt8.ofNat nx :: (bl T ++ (Ph.take k).flatMap H32.l)) := hX
   have HX5 := kpB hb HX4
   have HY5 := kpB hb HY4
   clear hb hX
   by_cases hlt : k < h
   ·skip
    obtain ⟨c, hc⟩ : ∃ c, Ph[k]? = some c := ⟨_, List.getElem?_eq_getElem (by rw [HPl.out]; exact hlt)⟩
    have hAr := HA5.out
    rw [← HPl.out] at hAr
    obtain ⟨b, o, rfl, hblt, hcc⟩ := row_cells hF (by omega) (by rw [HPl.out] at hAr ⊢; exact hAr) hc
    have htk : Ph.take (k + 1) = Ph.take k ++ [c] := by
     have hl : k < Ph.length := by rw [HPl.out]; exact hlt
     rw [List.take_succ_eq_append_getElem hl]
     rw [List.getElem?_eq_getElem hl] at hc
     rw [Option.some.inj hc]
    have Htk := lh htk
    have Hcc := lh (show ∀ (j : Nat) (u : Value), c.A.toList[j]? = some u → wr.cell? ⟨b, o + k * 32 + j, none⟩ = some u from hcc)
    obtain ⟨C, hC⟩ := nXe (c.A)
    rw [← hC] at Hcc
    have HC := lh hC
    have HCS := lh (show (Tryz.prog.info? 25).map (·.size) = some C.size by rw [hC]; exact c.info)
    have HCN := lh (show 32 = C.size by rw [hC]; exact c.size.symm)
    have HCO := lh (show C.all (·.oneCell') = true by rw [hC]; exact c.one)
    have HXs := lh hXs
    clear hc htk hAr hcc hC hXs
    go_wp2_with (first | (refine wpList_load_rowO rfl _ _ rfl b (o + k * 32) rfl C Hcc.out Tryz.underlying25 rfl HCS.out ?_) | (refine wpList_store_rowA rfl _ _ _ rfl wr.heap.size C rfl rfl _ _ (heap_new _ _) HCS.out (by rw [← HCN.out]; rfl) HCO.out ?_) | fail)
    intro w6 hw6
    have hb6 : Below wr.heap.size wr w6 := by rw [hw6.out]; exact below_row bAx (Nat.le_refl _) _
    have hy6 : w6.heap[wr.heap.size]? = some (.cells c.A 25 (0, 0)) := by rw [hw6.out, ← HC.out]; exact setRow_at (heap_new _ _)
    have hsl6 := sl_row w6 _ c hy6
    have hcl : c.l.length = 32 := c.len
    have hcv6 := run_text' (P := Tryz.prog) w6 101 9 5 Tryz.underlying101 Tryz.underlying5 Tryz.underlying9 (.slice (some ⟨wr.heap.size, 0, none⟩) 32 32) c.l (by rw [hcl]; exact hsl6)
    obtain ⟨Y, hY⟩ := nXe (bsOf c.l)
    have hYs : Y.size = 32 := by rw [hY, size_bsOf]; exact hcl
    have HYb := lh (show bl Y = c.l by rw [hY, bl_bsOf])
    rw [← hY] at hcv6
    have HCV6 := lh hcv6
    have HB6 := tbB HB hb6
    have HYs := lh hYs
    have hxy : ¬ 9223372036854775807 < X.size + Y.size := by have := HXs.out; omega
    obtain ⟨cy6, fy6⟩ := row_facts hy6
    clear hw6 hb6 hy6 hsl6 hcv6 hY hYs hcl
    go_wp2_with fail
    rw [HCV6.out]
    go_wp2
    go_roundw
    case rel => exact ⟨k + 1, _, rfl, by go_num, by omega, by have := HXs.out; have := HYs.out; rw [ByteArray.size_append]; omega, lh (by rw [RkB.cat_bl, HX.out, HYb.out, Htk.out, List.flatMap_append, List.flatMap_singleton]; simp [List.append_assoc]), HB6.out⟩
    case measure => simp [intOf]; omega
   ·skip
    obtain rfl : k = h := by omega
    have hXe : X = B := by rw [HBe.out, ← bsOf_bl X, HX.out, List.take_of_length_le (by rw [HPl.out]; exact Nat.le_refl _)]
    subst hXe
    have e2 : wr.cell? ⟨w.heap.size, 2, none⟩ = some (.int .i64 (nx : Int)) := (cell_row HX5.out).trans HP2.out
    have ef2 : wr.frozen? ⟨w.heap.size, 2, none⟩ = false := frozen_row HX5.out
    obtain ⟨wf, hwf⟩ := nXe (wr.setCell ⟨w.heap.size, 2, none⟩ (.int .i64 ((nx : Int) + 1)))
    have HBr : Hid (Below w.heap.size w wr) := lh (HB4.out.trans (HB.out.mono HB4.out.size))
    have HBf := lh (show Below w.heap.size w wf by rw [hwf]; exact HBr.out.setCell (p := ⟨w.heap.size, 2, none⟩) (Nat.le_refl _) _)
    have HXf := lh (show wf.heap[w.heap.size]? = some (.cells E2 40 (0, 0)) by rw [hwf, ← HPS.out]; exact heap_setCell_same HX5.out _)
    have HYf := lh (show wf.heap[w.heap.size + 1]? = some (.cells Z 40 (0, 0)) by rw [hwf]; exact ((Ext.set1 wr w.heap.size 2 _).block _ (lt_row HY5.out) (by omega)).trans HY5.out)
    have HWf := lh hwf
    clear hwf hXs
    go_wp2_with (first | (rw [← HWf.out]; refine wpList_load_row rfl _ _ rfl w.heap.size rfl _ E2 (0, 0) _ HXf.out Tryz.underlying40 rfl HE2S.out ?_) | (refine wpList_store_rowA rfl _ _ _ rfl (w.heap.size + 1) E2 rfl rfl _ _ HYf.out HE2S.out HZn.out HE2O.out ?_) | fail)
    intro wg hwg
    have HYg := lh (show wg.heap[w.heap.size + 1]? = some (.cells E2 40 (0, 0)) by rw [hwg.out]; exact setRow_at HYf.out)
    have HBg := lh (show Below w.heap.size w wg by rw [hwg.out]; exact below_row HBf.out (by omega) _)
    clear hwg
    go_wp2_with fail
    refine bodyPost_ret (v := .tuple #[.agg E2, .string X, .int .i64 0]) (WireT.results_cell_slot2 rfl _ _ (w.heap.size + 1) 40 E2 (0, 0) _ rfl HYg.out Tryz.underlying40 rfl HE2S.out rfl rfl) rfl ⟨rfl, HBg.out⟩
end Go.Proofs.YtkcikadgnnjjjaaGreatDoor.RkO
namespace Go.Proofs.YtkcikadgnnjjjaaGreatDoor.EgT
open Go Go.RowKit Go.Shelf OctetS IdentS EntS OctP OctQ OctG IdentP EntP EventC ShaA Steps KeyA KeyS KeyI KeyK TreeA RkM WireS WireT
theorem results_cell2_slot {P : Program} {fn : Func} {p q r : Tmp} {ty ty2 : TypeId} (h : fn.results = #[.cell p ty, .cell q ty2, .tmp r]) (tmps : Array Value) (w : World) (g g2 : Nat) (t t2 : TypeId) (cs cs2 : Array Value) (fr fr2 : Nat × Nat) (d d2 : TypeDesc)
  (hp : tmps.getD p undef = .pointer (some ⟨g, 0, none⟩)) (hg : w.heap[g]? = some (.cells cs t fr))
  (hu : P.underlying ty = some d) (hd : (match d with | .struct _ | .array _ _ => true | _ => false) = true) (hi : (P.info? ty).map (·.size) = some cs.size)
  (hp2 : tmps.getD q undef = .pointer (some ⟨g2, 0, none⟩)) (hg2 : w.heap[g2]? = some (.cells cs2 t2 fr2))
  (hu2 : P.underlying ty2 = some d2) (hd2 : (match d2 with | .struct _ | .array _ _ => true | _ => false) = true) (hi2 : (P.info? ty2).map (·.size) = some cs2.size) {u : Value} (hr : tmps.getD r undef = u) :
  (results fn tmps).run P w = .ok (.tuple #[.agg cs, .agg cs2, u]) w := by
 have hp' : tmps[p]?.getD undef = .pointer (some ⟨g, 0, none⟩) := by simpa using hp
 have hq' : tmps[q]?.getD undef = .pointer (some ⟨g2, 0, none⟩) := by simpa using hp2
 have hr' : tmps[r]?.getD undef = u := by simpa using hr
 simp [results, h, hp', hq', hr', asAddr, run_loadVar_row w g t ty cs fr d hg hu hd hi, run_loadVar_row w g2 t2 ty2 cs2 fr2 d2 hg2 hu2 hd2 hi2]
end Go.Proofs.YtkcikadgnnjjjaaGreatDoor.EgT
