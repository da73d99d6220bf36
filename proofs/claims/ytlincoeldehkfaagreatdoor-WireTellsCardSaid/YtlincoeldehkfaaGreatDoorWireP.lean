/-
  WHAT IS PROVED: the proof of bytes, or none. Condition: what each theorem names.
-/
import Derived.Test.YtlincoeldehkfaaGreatDoorWireA
import Derived.Test.YtlincoeldehkfaaGreatDoorRef1B
import Derived.IntWalk
namespace Go.Proofs.YtlincoeldehkfaaGreatDoor.WireP
open Go Go.RowKit Go.Shelf Go.Proofs.YtlincoeldehkfaaGreatDoor Go.Proofs.YtlincoeldehkfaaGreatDoor.OctetS Go.Proofs.YtlincoeldehkfaaGreatDoor.IdentS Go.Proofs.YtlincoeldehkfaaGreatDoor.EntS Go.Proofs.YtlincoeldehkfaaGreatDoor.WireS Go.Proofs.YtlincoeldehkfaaGreatDoor.OctG Go.Proofs.YtlincoeldehkfaaGreatDoor.OctP Go.Proofs.YtlincoeldehkfaaGreatDoor.OctQ Go.Proofs.YtlincoeldehkfaaGreatDoor.OctA Go.Proofs.YtlincoeldehkfaaGreatDoor.IdentP Go.Proofs.YtlincoeldehkfaaGreatDoor.IdentR Go.Proofs.YtlincoeldehkfaaGreatDoor.EventP Go.Proofs.YtlincoeldehkfaaGreatDoor.EventC Go.Proofs.YtlincoeldehkfaaGreatDoor.EntP Go.Proofs.YtlincoeldehkfaaGreatDoor.WireT Go.Proofs.YtlincoeldehkfaaGreatDoor.Steps Go.Proofs.YtlincoeldehkfaaGreatDoor.Wr Go.Proofs.YtlincoeldehkfaaGreatDoor.WireA
set_option linter.unusedVariables false
set_option linter.unusedSimpArgs false

theorem cell_setRow_far {w : World} {g k j : Nat} {cs : Array Value} (h : k ≠ g) : (w.setRow g cs).cell? ⟨k, j, none⟩ = w.cell? ⟨k, j, none⟩ := by
  simp only [World.cell?, setRow_far cs h]
set_option maxRecDepth 100000 in
set_option maxHeartbeats 4000000 in
theorem p_Parse_bad (w : World) (s : ByteArray) (hs : s.size ≤ 140737488351232) {l : List (List UInt8)} {y : Int} (ha : all (bl s) = (l, y)) (hbad : y ≠ 0 ∨ (y = 0 ∧ l.length ≠ 5)) :
    Calls Tryz.prog 42 #[.string s] w (RB (pfV (parseP (bl s))) w) := by
  have hA := fun w => OctA.All_ok w s (by unfold maxLen; omega)
  unfold AllPost at hA
  rw [ha] at hA
  have HALL := Lib.hid hA
  clear hA
  rw [parseP_bad ha (by omega)]
  show Calls _ _ _ w (RB (.tuple #[.agg pfZ, .int .i64 6]) w)
  obtain ⟨Z, hZ⟩ : ∃ Z, Z = pfZ := ⟨_, rfl⟩
  have HLIT : Hid ((#[.int .i64 0, .string ⟨#[]⟩, .string ⟨#[]⟩, .string ⟨#[]⟩, .string ⟨#[]⟩] : Array Value) = Z) := Lib.hid (by rw [hZ]; kernel_rfl)
  have HZN : Hid (Z.size = 5) := Lib.hid (by rw [hZ]; kernel_rfl)
  have HZS : Hid ((Tryz.prog.info? 78).map (·.size) = some Z.size) := Lib.hid (by rw [hZ]; kernel_rfl)
  have HZO : Hid (Z.all (·.oneCell') = true) := Lib.hid (by rw [hZ]; exact by simp [dlZ, pfZ, msZ, dlA, pfA, msA, byV, zero32, Value.oneCell'])
  rw [← hZ]
  obtain ⟨w0, hw0⟩ : ∃ w0, w0 = w.alloc (.cells Z 78) := ⟨_, rfl⟩
  have hb0 : Below w.heap.size w w0 := by rw [hw0]; exact (Below.refl _ _).alloc (Nat.le_refl _) _
  have HX0 : Hid (w0.heap[w.heap.size]? = some (.cells Z 78 (0, 0))) := Lib.hid (by rw [hw0]; exact heap_new _ _)
  have lX0 := lt_row HX0.out
  have HBL0 := Lib.hid hb0
  have HW0 := Lib.hid hw0
  clear hw0 hb0 hZ
  have hcase : (y != 0) = true ∨ (y = 0 ∧ ((l.length : Int) != 5) = true) := by
    rcases hbad with h | ⟨h0, h⟩
    · exact .inl (by simpa using h)
    · exact .inr ⟨h0, by simp; omega⟩
  clear hbad ha
  rcases hcase with hy | ⟨rfl, hy⟩
  all_goals
    go_enter Tryz.func42, Tryz.ntmps42
    go_wp2_with fail
    rw [HLIT.out, ← HW0.out]
    refine (HALL.out w0).mono ?_
    rintro e w1 ⟨v, rfl, hl, hb⟩
    obtain ⟨av, cap, rfl, _, _⟩ := (Sl.ofOwn hl).form
    clear hl
    have HX1 := Lib.hid ((hb.block _ lX0).trans HX0.out)
    have lX1 := lt_row HX1.out
    have HBL1 := Lib.hid (HBL0.out.trans (hb.mono HBL0.out.size))
    clear hb 
    clear lX0
    go_wp2_with (first | (refine wpList_store_rowA rfl _ _ _ rfl w.heap.size Z rfl (by rw [← HLIT.out]; rfl) _ _ HX1.out HZS.out rfl HZO.out ?_) | fail)
    intro wf hwf
    go_wp2
    refine bodyPost_ret (v := .tuple #[.agg Z, .int .i64 6]) (results_cell_slot rfl _ _ w.heap.size 78 Z (0, 0) _ rfl (by rw [hwf.out]; exact setRow_at HX1.out) Tryz.underlying78 rfl HZS.out rfl) rfl ⟨rfl, by rw [hwf.out]; exact below_row HBL1.out (Nat.le_refl _) _⟩


set_option maxRecDepth 100000 in
set_option maxHeartbeats 4000000 in
theorem p_Parse_no (w : World) (s : ByteArray) (hs : s.size ≤ 140737488351232) {n a x b y : List UInt8} (ha : all (bl s) = ([n, a, x, b, y], 0)) (hno : small 63 n = none) :
    Calls Tryz.prog 42 #[.string s] w (RB (pfV (parseP (bl s))) w) := by
  have hA := fun w => OctA.All_ok w s (by unfold maxLen; omega)
  unfold AllPost at hA
  rw [ha] at hA
  have HALL := Lib.hid hA
  clear hA
  obtain ⟨N, hN⟩ : ∃ bb, bb = bsOf n := ⟨_, rfl⟩
  have bN : bl N = n := by rw [hN, bl_bsOf]
  have zN : N.size ≤ 8192 := by rw [hN]; exact parts_len ha _ (by simp)
  have HN := Lib.hid hN
  obtain ⟨A, hA⟩ : ∃ bb, bb = bsOf a := ⟨_, rfl⟩
  have bA : bl A = a := by rw [hA, bl_bsOf]
  have zA : A.size ≤ 8192 := by rw [hA]; exact parts_len ha _ (by simp)
  have HA := Lib.hid hA
  obtain ⟨X, hX⟩ : ∃ bb, bb = bsOf x := ⟨_, rfl⟩
  have bX : bl X = x := by rw [hX, bl_bsOf]
  have zX : X.size ≤ 8192 := by rw [hX]; exact parts_len ha _ (by simp)
  have HX := Lib.hid hX
  obtain ⟨D, hD⟩ : ∃ bb, bb = bsOf b := ⟨_, rfl⟩
  have bD : bl D = b := by rw [hD, bl_bsOf]
  have zD : D.size ≤ 8192 := by rw [hD]; exact parts_len ha _ (by simp)
  have HD := Lib.hid hD
  obtain ⟨Y, hY⟩ : ∃ bb, bb = bsOf y := ⟨_, rfl⟩
  have bY : bl Y = y := by rw [hY, bl_bsOf]
  have zY : Y.size ≤ 8192 := by rw [hY]; exact parts_len ha _ (by simp)
  have HY := Lib.hid hY
  obtain ⟨m, u, q, hg⟩ : ∃ m u q, getNum (bl N) = (m, u, q) := ⟨_, _, _, rfl⟩
  have HG := Lib.hid (fun w => GetNum_at w N (by unfold maxLen; omega) hg)
  have hmm := getNum_le hg
  unfold maxNum at hmm
  rw [bN] at hg
  have hcase : (q != 0) = true ∨ (q = 0 ∧ u < N.size) ∨ (q = 0 ∧ u = N.size ∧ 63 < m) := by
    rcases small_cases 63 hg with ⟨h, h'⟩ | ⟨h, h1, h'⟩ | ⟨h, h1, h2, h3, h'⟩ | ⟨h, h1, h2, h3, h'⟩
    · exact .inl (by simpa using h)
    · exact .inr (.inl ⟨h, by rw [hN, size_bsOf]; exact h1⟩)
    · exact .inr (.inr ⟨h, by rw [hN, size_bsOf]; exact h1, h2⟩)
    · rw [hno] at h'; cases h'
  rw [parseP_five ha, hno]
  show Calls _ _ _ w (RB (.tuple #[.agg pfZ, .int .i64 6]) w)
  obtain ⟨Z, hZ⟩ : ∃ Z, Z = pfZ := ⟨_, rfl⟩
  have HLIT : Hid ((#[.int .i64 0, .string ⟨#[]⟩, .string ⟨#[]⟩, .string ⟨#[]⟩, .string ⟨#[]⟩] : Array Value) = Z) := Lib.hid (by rw [hZ]; kernel_rfl)
  have HZN : Hid (Z.size = 5) := Lib.hid (by rw [hZ]; kernel_rfl)
  have HZS : Hid ((Tryz.prog.info? 78).map (·.size) = some Z.size) := Lib.hid (by rw [hZ]; kernel_rfl)
  have HZO : Hid (Z.all (·.oneCell') = true) := Lib.hid (by rw [hZ]; exact by simp [dlZ, pfZ, msZ, dlA, pfA, msA, byV, zero32, Value.oneCell'])
  rw [← hZ]
  obtain ⟨w0, hw0⟩ : ∃ w0, w0 = w.alloc (.cells Z 78) := ⟨_, rfl⟩
  have hb0 : Below w.heap.size w w0 := by rw [hw0]; exact (Below.refl _ _).alloc (Nat.le_refl _) _
  have HX0 : Hid (w0.heap[w.heap.size]? = some (.cells Z 78 (0, 0))) := Lib.hid (by rw [hw0]; exact heap_new _ _)
  have lX0 := lt_row HX0.out
  have HBL0 := Lib.hid hb0
  have HW0 := Lib.hid hw0
  clear hw0 hb0 hZ
  clear ha hg hno hN bN hA bA hX bX hD bD hY bY
  rcases hcase with hq | ⟨rfl, hq⟩ | ⟨rfl, rfl, hq⟩
  all_goals
    go_enter Tryz.func42, Tryz.ntmps42
    go_wp2_with fail
    rw [HLIT.out, ← HW0.out]
    refine (HALL.out w0).mono ?_
    rintro e w1 ⟨v, rfl, hl, hb⟩
    obtain ⟨B, cap, rfl, hB, hc⟩ := list_n 5 hl rfl (by omega)
    clear hl
    have hc0_1 : w1.cell? ⟨B, 0, none⟩ = some (.string N) := by rw [HN.out]; exact hc 0 _ rfl
    have hBX : ¬ w.heap.size = B := by omega
    clear hc hB
    have HX1 := Lib.hid ((hb.block _ lX0).trans HX0.out)
    have lX1 := lt_row HX1.out
    have HBL1 := Lib.hid (HBL0.out.trans (hb.mono HBL0.out.size))
    clear hb 
    clear lX0
    have hc0x1 := hc0_1
    clear hc0_1
    go_wp2_with fail
    refine (HG.out w1).mono ?_
    rintro e wz ⟨rfl, rfl⟩
    go_wp2_with (first | (refine wpList_store_rowA rfl _ _ _ rfl w.heap.size Z rfl (by rw [← HLIT.out]; rfl) _ _ HX1.out HZS.out rfl HZO.out ?_) | fail)
    intro wf hwf
    go_wp2
    refine bodyPost_ret (v := .tuple #[.agg Z, .int .i64 6]) (results_cell_slot rfl _ _ w.heap.size 78 Z (0, 0) _ rfl (by rw [hwf.out]; exact setRow_at HX1.out) Tryz.underlying78 rfl HZS.out rfl) rfl ⟨rfl, by rw [hwf.out]; exact below_row HBL1.out (Nat.le_refl _) _⟩


set_option maxRecDepth 100000 in
set_option maxHeartbeats 4000000 in
theorem p_Parse_yes (w : World) (s : ByteArray) (hs : s.size ≤ 140737488351232) {n a x b y : List UInt8} (ha : all (bl s) = ([n, a, x, b, y], 0)) {z : Nat} (hyes : small 63 n = some z) :
    Calls Tryz.prog 42 #[.string s] w (RB (pfV (parseP (bl s))) w) := by
  have hA := fun w => OctA.All_ok w s (by unfold maxLen; omega)
  unfold AllPost at hA
  rw [ha] at hA
  have HALL := Lib.hid hA
  clear hA
  obtain ⟨N, hN⟩ : ∃ bb, bb = bsOf n := ⟨_, rfl⟩
  have bN : bl N = n := by rw [hN, bl_bsOf]
  have zN : N.size ≤ 8192 := by rw [hN]; exact parts_len ha _ (by simp)
  have HN := Lib.hid hN
  obtain ⟨A, hA⟩ : ∃ bb, bb = bsOf a := ⟨_, rfl⟩
  have bA : bl A = a := by rw [hA, bl_bsOf]
  have zA : A.size ≤ 8192 := by rw [hA]; exact parts_len ha _ (by simp)
  have HA := Lib.hid hA
  obtain ⟨X, hX⟩ : ∃ bb, bb = bsOf x := ⟨_, rfl⟩
  have bX : bl X = x := by rw [hX, bl_bsOf]
  have zX : X.size ≤ 8192 := by rw [hX]; exact parts_len ha _ (by simp)
  have HX := Lib.hid hX
  obtain ⟨D, hD⟩ : ∃ bb, bb = bsOf b := ⟨_, rfl⟩
  have bD : bl D = b := by rw [hD, bl_bsOf]
  have zD : D.size ≤ 8192 := by rw [hD]; exact parts_len ha _ (by simp)
  have HD := Lib.hid hD
  obtain ⟨Y, hY⟩ : ∃ bb, bb = bsOf y := ⟨_, rfl⟩
  have bY : bl Y = y := by rw [hY, bl_bsOf]
  have zY : Y.size ≤ 8192 := by rw [hY]; exact parts_len ha _ (by simp)
  have HY := Lib.hid hY
  obtain ⟨m, u, q, hg⟩ : ∃ m u q, getNum (bl N) = (m, u, q) := ⟨_, _, _, rfl⟩
  have HG := Lib.hid (fun w => GetNum_at w N (by unfold maxLen; omega) hg)
  have hmm := getNum_le hg
  unfold maxNum at hmm
  rw [bN] at hg
  obtain ⟨rfl, rfl, rfl, h63⟩ : q = 0 ∧ u = N.size ∧ m = z ∧ m ≤ 63 := by
    rcases small_cases 63 hg with ⟨h, h'⟩ | ⟨h, h1, h'⟩ | ⟨h, h1, h2, h3, h'⟩ | ⟨h, h1, h2, h3, h'⟩
    · rw [hyes] at h'; cases h'
    · rw [hyes] at h'; cases h'
    · rw [hyes] at h'; cases h'
    · rw [hyes] at h'; cases h'; exact ⟨h, by rw [hN, size_bsOf]; exact h1, rfl, h2⟩
  rw [parseP_five ha, hyes]
  show Calls _ _ _ w (RB (.tuple #[.agg (pfA m (bsOf a) (bsOf x) (bsOf b) (bsOf y)), .int .i64 0]) w)
  rw [← hA, ← hX, ← hD, ← hY]
  obtain ⟨Z, hZ⟩ : ∃ Z, Z = pfZ := ⟨_, rfl⟩
  have HLIT : Hid ((#[.int .i64 0, .string ⟨#[]⟩, .string ⟨#[]⟩, .string ⟨#[]⟩, .string ⟨#[]⟩] : Array Value) = Z) := Lib.hid (by rw [hZ]; kernel_rfl)
  have HZN : Hid (Z.size = 5) := Lib.hid (by rw [hZ]; kernel_rfl)
  have HZS : Hid ((Tryz.prog.info? 78).map (·.size) = some Z.size) := Lib.hid (by rw [hZ]; kernel_rfl)
  have HZO : Hid (Z.all (·.oneCell') = true) := Lib.hid (by rw [hZ]; exact by simp [dlZ, pfZ, msZ, dlA, pfA, msA, byV, zero32, Value.oneCell'])
  obtain ⟨w0, hw0⟩ : ∃ w0, w0 = w.alloc (.cells Z 78) := ⟨_, rfl⟩
  have hb0 : Below w.heap.size w w0 := by rw [hw0]; exact (Below.refl _ _).alloc (Nat.le_refl _) _
  have HX0 : Hid (w0.heap[w.heap.size]? = some (.cells Z 78 (0, 0))) := Lib.hid (by rw [hw0]; exact heap_new _ _)
  have lX0 := lt_row HX0.out
  have HBL0 := Lib.hid hb0
  have HW0 := Lib.hid hw0
  clear hw0 hb0 hZ
  obtain ⟨E1, hE1⟩ : ∃ E, E = pfA m A X D Y := ⟨_, rfl⟩
  have hE1n : E1.size = 5 := by rw [hE1]; rfl
  have HE1S : Hid ((Tryz.prog.info? 78).map (·.size) = some E1.size) := Lib.hid (by rw [hE1n, ← HZN.out]; exact HZS.out)
  have HE1Z : Hid (Z.size = E1.size) := Lib.hid (by rw [hE1n, HZN.out])
  have HE1N : Hid (5 = E1.size) := Lib.hid hE1n.symm
  have HE1O : Hid (E1.all (·.oneCell') = true) := Lib.hid (by rw [hE1]; simp [pfA, Value.oneCell'])
  have HE1 := Lib.hid hE1
  clear hE1n
  rw [← hE1]
  clear ha hg hyes hE1 hN bN hA bA hX bX hD bD hY bY
  go_enter Tryz.func42, Tryz.ntmps42
  go_wp2_with fail
  rw [HLIT.out, ← HW0.out]
  refine (HALL.out w0).mono ?_
  rintro e w1 ⟨v, rfl, hl, hb⟩
  obtain ⟨B, cap, rfl, hB, hc⟩ := list_n 5 hl rfl (by omega)
  clear hl
  have hc0_1 : w1.cell? ⟨B, 0, none⟩ = some (.string N) := by rw [HN.out]; exact hc 0 _ rfl
  have hc1_1 : w1.cell? ⟨B, 1, none⟩ = some (.string A) := by rw [HA.out]; exact hc 1 _ rfl
  have hc2_1 : w1.cell? ⟨B, 2, none⟩ = some (.string X) := by rw [HX.out]; exact hc 2 _ rfl
  have hc3_1 : w1.cell? ⟨B, 3, none⟩ = some (.string D) := by rw [HD.out]; exact hc 3 _ rfl
  have hc4_1 : w1.cell? ⟨B, 4, none⟩ = some (.string Y) := by rw [HY.out]; exact hc 4 _ rfl
  have hBX : ¬ w.heap.size = B := by omega
  clear hc hB
  have HX1 := Lib.hid ((hb.block _ lX0).trans HX0.out)
  have lX1 := lt_row HX1.out
  have HBL1 := Lib.hid (HBL0.out.trans (hb.mono HBL0.out.size))
  clear hb 
  clear lX0
  have hc0x1 := hc0_1
  clear hc0_1
  have hc1x1 := hc1_1
  clear hc1_1
  have hc2x1 := hc2_1
  clear hc2_1
  have hc3x1 := hc3_1
  clear hc3_1
  have hc4x1 := hc4_1
  clear hc4_1
  go_wp2_with fail
  refine (HG.out w1).mono ?_
  rintro e wz ⟨rfl, rfl⟩
  go_wp2_with fail
  refine wp_region_noPanic ?_
  refine Wr.region_K (S := (fun W => W.cell? ⟨B, 1, none⟩ = some (.string A) ∧ W.cell? ⟨B, 2, none⟩ = some (.string X) ∧ W.cell? ⟨B, 3, none⟩ = some (.string D) ∧ W.cell? ⟨B, 4, none⟩ = some (.string Y))) (K := []) (by kernel_rfl) ?_
  change Wr.wpAnyK _ _ _ _ _ _ _ _ _ (World.drew w1)
  have hBL0 : Below w1.heap.size w1 (World.drew w1) := Bl.drew (Below.refl _ _)
  have hS0 : (World.drew w1).cell? ⟨B, 1, none⟩ = some (.string A) ∧ (World.drew w1).cell? ⟨B, 2, none⟩ = some (.string X) ∧ (World.drew w1).cell? ⟨B, 3, none⟩ = some (.string D) ∧ (World.drew w1).cell? ⟨B, 4, none⟩ = some (.string Y) := ⟨below_cell hBL0 hc1x1, below_cell hBL0 hc2x1, below_cell hBL0 hc3x1, below_cell hBL0 hc4x1⟩
  refine Wr.wpAnyK_take (i := 0) (v := ?_) rfl (by kernel_rfl) (fun _ _ _ h => h) (Or.inl ⟨by rfl, ?_⟩) hS0 ?_
  rotate_left
  · intro wq hSw
    obtain ⟨q0, q1, q2, q3⟩ := hSw
    go_simp
    rfl
  simp only [Act.put, sx1, sx2, sx3, sx4, sx5, sx6]
  refine Wr.wpAnyK_take (i := 1) (v := (.int .i64 m)) rfl (by kernel_rfl) (fun _ _ _ h => h) (Or.inl ⟨by rfl, ?_⟩) hS0 ?_
  · intro wq hSw
    obtain ⟨q0, q1, q2, q3⟩ := hSw
    have hwm : IntKind.i64.wrap (m : Int) = m := IntWalk.i64_in _ (by omega)
    (go_simp; first | done | rfl | rw [hwm])
  simp only [Act.put, sx1, sx2, sx3, sx4, sx5, sx6]
  refine Wr.wpAnyK_take (i := 2) (v := ?_) rfl (by kernel_rfl) (fun _ _ _ h => h) (Or.inl ⟨by rfl, ?_⟩) hS0 ?_
  rotate_left
  · intro wq hSw
    obtain ⟨q0, q1, q2, q3⟩ := hSw
    go_simp
    rfl
  simp only [Act.put, sx1, sx2, sx3, sx4, sx5, sx6]
  refine Wr.wpAnyK_take (i := 3) (v := ?_) rfl (by kernel_rfl) (fun _ _ _ h => h) (Or.inl ⟨by rfl, ?_⟩) hS0 ?_
  rotate_left
  · intro wq hSw
    obtain ⟨q0, q1, q2, q3⟩ := hSw
    go_simp
    rfl
  simp only [Act.put, sx1, sx2, sx3, sx4, sx5, sx6]
  refine Wr.wpAnyK_take (i := 4) (v := ?_) rfl (by kernel_rfl) (fun _ _ _ h => h) (Or.inl ⟨by rfl, ?_⟩) hS0 ?_
  rotate_left
  · intro wq hSw
    obtain ⟨q0, q1, q2, q3⟩ := hSw
    go_simp
    rfl
  simp only [Act.put, sx1, sx2, sx3, sx4, sx5, sx6]
  refine Wr.wpAnyK_take (i := 5) (v := ?_) rfl (by kernel_rfl) (fun _ _ _ h => h) (Or.inl ⟨by rfl, ?_⟩) hS0 ?_
  rotate_left
  · intro wq hSw
    obtain ⟨q0, q1, q2, q3⟩ := hSw
    go_simp
    rfl
  simp only [Act.put, sx1, sx2, sx3, sx4, sx5, sx6]
  refine Wr.wpAnyK_take (i := 6) (v := ?_) rfl (by kernel_rfl) (fun _ _ _ h => h) (Or.inl ⟨by rfl, ?_⟩) hS0 ?_
  rotate_left
  · intro wq hSw
    obtain ⟨q0, q1, q2, q3⟩ := hSw
    go_simp
    rfl
  simp only [Act.put, sx1, sx2, sx3, sx4, sx5, sx6]
  refine Wr.wpAnyK_take (i := 7) (v := ?_) rfl (by kernel_rfl) (fun _ _ _ h => h) (Or.inl ⟨by rfl, ?_⟩) hS0 ?_
  rotate_left
  · intro wq hSw
    obtain ⟨q0, q1, q2, q3⟩ := hSw
    go_simp
    rfl
  simp only [Act.put, sx1, sx2, sx3, sx4, sx5, sx6]
  refine Wr.wpAnyK_take (i := 8) (v := ?_) rfl (by kernel_rfl) (fun _ _ _ h => h) (Or.inl ⟨by rfl, ?_⟩) hS0 ?_
  rotate_left
  · intro wq hSw
    obtain ⟨q0, q1, q2, q3⟩ := hSw
    go_simp
    rfl
  simp only [Act.put, sx1, sx2, sx3, sx4, sx5, sx6]
  refine Wr.wpAnyK_take (i := 9) (v := ?_) rfl (by kernel_rfl) (fun _ _ _ h => h) (Or.inl ⟨by rfl, ?_⟩) hS0 ?_
  rotate_left
  · intro wq hSw
    obtain ⟨q0, q1, q2, q3⟩ := hSw
    go_simp
    rfl
  simp only [Act.put, sx1, sx2, sx3, sx4, sx5, sx6]
  refine Wr.wpAnyK_take (i := 10) (v := ?_) rfl (by kernel_rfl) (fun _ _ _ h => h) (Or.inl ⟨by rfl, ?_⟩) hS0 ?_
  rotate_left
  · intro wq hSw
    obtain ⟨q0, q1, q2, q3⟩ := hSw
    go_simp
    rfl
  simp only [Act.put, sx1, sx2, sx3, sx4, sx5, sx6]
  refine Wr.wpAnyK_take (i := 11) (v := ?_) rfl (by kernel_rfl) (fun _ _ _ h => h) (Or.inl ⟨by rfl, ?_⟩) hS0 ?_
  rotate_left
  · intro wq hSw
    obtain ⟨q0, q1, q2, q3⟩ := hSw
    go_simp
    rfl
  simp only [Act.put, sx1, sx2, sx3, sx4, sx5, sx6]
  refine Wr.wpAnyK_take (i := 12) (v := ?_) rfl (by kernel_rfl) (fun _ _ _ h => h) (Or.inl ⟨by rfl, ?_⟩) hS0 ?_
  rotate_left
  · intro wq hSw
    obtain ⟨q0, q1, q2, q3⟩ := hSw
    go_simp
    rfl
  simp only [Act.put, sx1, sx2, sx3, sx4, sx5, sx6]
  refine Wr.wpAnyK_take (i := 13) (v := ?_) rfl (by kernel_rfl) (fun _ _ _ h => h) (Or.inl ⟨by rfl, ?_⟩) hS0 ?_
  rotate_left
  · intro wq hSw
    obtain ⟨q0, q1, q2, q3⟩ := hSw
    go_simp
    rfl
  simp only [Act.put, sx1, sx2, sx3, sx4, sx5, sx6]
  refine Wr.wpAnyK_take (i := 14) (v := .agg E1) rfl (by kernel_rfl) (fun _ _ _ h => h) (WrC.yields_build _ _ rfl (by rfl) E1 (by rw [HE1.out]; kernel_rfl)) hS0 ?_
  simp only [Act.put, sx1, sx2, sx3, sx4, sx5, sx6]
  refine Wr.wpAnyK_one (i := 15) (by kernel_rfl) ?_
  refine WrC.wpOp_store_row rfl (by rfl) _ _ _ rfl w.heap.size E1 rfl rfl _ _ (show (World.drew w1).heap[w.heap.size]? = some (.cells Z 78 (0, 0)) from HX1.out) HE1S.out HE1Z.out HE1O.out ?_
  intro u1 hu1
  have hbX : Below w.heap.size w u1 := by rw [hu1.out]; exact below_row (HBL1.out.trans (hBL0.mono HBL1.out.size)) (Nat.le_refl _) _
  have hyX : u1.heap[w.heap.size]? = some (.cells E1 78 (0, 0)) := by rw [hu1.out]; exact setRow_at (show (World.drew w1).heap[w.heap.size]? = some (.cells Z 78 (0, 0)) from HX1.out)
  have hS1 : u1.cell? ⟨B, 1, none⟩ = some (.string A) ∧ u1.cell? ⟨B, 2, none⟩ = some (.string X) ∧ u1.cell? ⟨B, 3, none⟩ = some (.string D) ∧ u1.cell? ⟨B, 4, none⟩ = some (.string Y) := ⟨by rw [hu1.out]; exact (cell_setRow_far (by omega)).trans hS0.1, by rw [hu1.out]; exact (cell_setRow_far (by omega)).trans hS0.2.1, by rw [hu1.out]; exact (cell_setRow_far (by omega)).trans hS0.2.2.1, by rw [hu1.out]; exact (cell_setRow_far (by omega)).trans hS0.2.2.2⟩
  refine ⟨hS1, ?_⟩
  simp only [Act.put, sx1, sx2, sx3, sx4, sx5, sx6]
  refine Wr.wpAnyK_take (i := 16) (v := ?_) rfl (by kernel_rfl) (fun _ _ _ h => h) (Or.inl ⟨by rfl, ?_⟩) hS1 ?_
  rotate_left
  · intro wq hSw
    obtain ⟨q0, q1, q2, q3⟩ := hSw
    go_simp
    rfl
  simp only [Act.put, sx1, sx2, sx3, sx4, sx5, sx6]
  refine Wr.wpAnyK_done (by kernel_rfl) (NoPanic.normal ?_) _
  go_wp2
  refine bodyPost_ret (v := .tuple #[.agg E1, .int .i64 0]) (results_cell_slot rfl _ _ w.heap.size 78 E1 (0, 0) _ rfl hyX Tryz.underlying78 rfl HE1S.out rfl) rfl ⟨rfl, hbX⟩


theorem p_Parse (w : World) (s : ByteArray) (hs : s.size ≤ 140737488351232) :
    Calls Tryz.prog 42 #[.string s] w (RB (pfV (parseP (bl s))) w) := by
  obtain ⟨l, y, ha⟩ : ∃ l y, all (bl s) = (l, y) := ⟨_, _, rfl⟩
  by_cases h0 : y = 0
  · subst h0
    by_cases h2 : l.length = 5
    · match l, h2, ha with
      | [n, a, x, b, y], _, ha =>
        cases h : small 63 n with
        | none => exact p_Parse_no w s hs ha h
        | some z => exact p_Parse_yes w s hs ha h
    · exact p_Parse_bad w s hs ha (.inr ⟨rfl, h2⟩)
  · exact p_Parse_bad w s hs ha (.inl h0)

set_option maxRecDepth 100000 in
set_option maxHeartbeats 4000000 in
theorem rp_Parse_bad (w : World) (s : ByteArray) (hs : s.size ≤ 140737488351232) {l : List (List UInt8)} {y : Int} (ha : all (bl s) = (l, y)) (hbad : y ≠ 0 ∨ (y = 0 ∧ l.length ≠ 5)) :
    Calls Tryz.prog 47 #[.string s] w (RB (pfV (parseP (bl s))) w) := by
  have hA := fun w => Ref1A.All_ok w s (by unfold maxLen; omega)
  unfold AllPost at hA
  rw [ha] at hA
  have HALL := Lib.hid hA
  clear hA
  rw [parseP_bad ha (by omega)]
  show Calls _ _ _ w (RB (.tuple #[.agg pfZ, .int .i64 6]) w)
  obtain ⟨Z, hZ⟩ : ∃ Z, Z = pfZ := ⟨_, rfl⟩
  have HLIT : Hid ((#[.int .i64 0, .string ⟨#[]⟩, .string ⟨#[]⟩, .string ⟨#[]⟩, .string ⟨#[]⟩] : Array Value) = Z) := Lib.hid (by rw [hZ]; kernel_rfl)
  have HZN : Hid (Z.size = 5) := Lib.hid (by rw [hZ]; kernel_rfl)
  have HZS : Hid ((Tryz.prog.info? 78).map (·.size) = some Z.size) := Lib.hid (by rw [hZ]; kernel_rfl)
  have HZO : Hid (Z.all (·.oneCell') = true) := Lib.hid (by rw [hZ]; exact by simp [dlZ, pfZ, msZ, dlA, pfA, msA, byV, zero32, Value.oneCell'])
  rw [← hZ]
  obtain ⟨w0, hw0⟩ : ∃ w0, w0 = w.alloc (.cells Z 78) := ⟨_, rfl⟩
  have hb0 : Below w.heap.size w w0 := by rw [hw0]; exact (Below.refl _ _).alloc (Nat.le_refl _) _
  have HX0 : Hid (w0.heap[w.heap.size]? = some (.cells Z 78 (0, 0))) := Lib.hid (by rw [hw0]; exact heap_new _ _)
  have lX0 := lt_row HX0.out
  have HBL0 := Lib.hid hb0
  have HW0 := Lib.hid hw0
  clear hw0 hb0 hZ
  have hcase : (y != 0) = true ∨ (y = 0 ∧ ((l.length : Int) != 5) = true) := by
    rcases hbad with h | ⟨h0, h⟩
    · exact .inl (by simpa using h)
    · exact .inr ⟨h0, by simp; omega⟩
  clear hbad ha
  rcases hcase with hy | ⟨rfl, hy⟩
  all_goals
    go_enter Tryz.func47, Tryz.ntmps47
    go_wp2_with fail
    rw [HLIT.out, ← HW0.out]
    refine (HALL.out w0).mono ?_
    rintro e w1 ⟨v, rfl, hl, hb⟩
    obtain ⟨av, cap, rfl, _, _⟩ := (Sl.ofOwn hl).form
    clear hl
    have HX1 := Lib.hid ((hb.block _ lX0).trans HX0.out)
    have lX1 := lt_row HX1.out
    have HBL1 := Lib.hid (HBL0.out.trans (hb.mono HBL0.out.size))
    clear hb 
    clear lX0
    go_wp2_with (first | (refine wpList_store_rowA rfl _ _ _ rfl w.heap.size Z rfl (by rw [← HLIT.out]; rfl) _ _ HX1.out HZS.out rfl HZO.out ?_) | fail)
    intro wf hwf
    go_wp2
    refine bodyPost_ret (v := .tuple #[.agg Z, .int .i64 6]) (results_cell_slot rfl _ _ w.heap.size 78 Z (0, 0) _ rfl (by rw [hwf.out]; exact setRow_at HX1.out) Tryz.underlying78 rfl HZS.out rfl) rfl ⟨rfl, by rw [hwf.out]; exact below_row HBL1.out (Nat.le_refl _) _⟩


set_option maxRecDepth 100000 in
set_option maxHeartbeats 4000000 in
theorem rp_Parse_no (w : World) (s : ByteArray) (hs : s.size ≤ 140737488351232) {n a x b y : List UInt8} (ha : all (bl s) = ([n, a, x, b, y], 0)) (hno : small 63 n = none) :
    Calls Tryz.prog 47 #[.string s] w (RB (pfV (parseP (bl s))) w) := by
  have hA := fun w => Ref1A.All_ok w s (by unfold maxLen; omega)
  unfold AllPost at hA
  rw [ha] at hA
  have HALL := Lib.hid hA
  clear hA
  obtain ⟨N, hN⟩ : ∃ bb, bb = bsOf n := ⟨_, rfl⟩
  have bN : bl N = n := by rw [hN, bl_bsOf]
  have zN : N.size ≤ 8192 := by rw [hN]; exact parts_len ha _ (by simp)
  have HN := Lib.hid hN
  obtain ⟨A, hA⟩ : ∃ bb, bb = bsOf a := ⟨_, rfl⟩
  have bA : bl A = a := by rw [hA, bl_bsOf]
  have zA : A.size ≤ 8192 := by rw [hA]; exact parts_len ha _ (by simp)
  have HA := Lib.hid hA
  obtain ⟨X, hX⟩ : ∃ bb, bb = bsOf x := ⟨_, rfl⟩
  have bX : bl X = x := by rw [hX, bl_bsOf]
  have zX : X.size ≤ 8192 := by rw [hX]; exact parts_len ha _ (by simp)
  have HX := Lib.hid hX
  obtain ⟨D, hD⟩ : ∃ bb, bb = bsOf b := ⟨_, rfl⟩
  have bD : bl D = b := by rw [hD, bl_bsOf]
  have zD : D.size ≤ 8192 := by rw [hD]; exact parts_len ha _ (by simp)
  have HD := Lib.hid hD
  obtain ⟨Y, hY⟩ : ∃ bb, bb = bsOf y := ⟨_, rfl⟩
  have bY : bl Y = y := by rw [hY, bl_bsOf]
  have zY : Y.size ≤ 8192 := by rw [hY]; exact parts_len ha _ (by simp)
  have HY := Lib.hid hY
  obtain ⟨m, u, q, hg⟩ : ∃ m u q, getNum (bl N) = (m, u, q) := ⟨_, _, _, rfl⟩
  have HG := Lib.hid (fun w => Ref1K.GetNum_at w N (by unfold maxLen; omega) hg)
  have hmm := getNum_le hg
  unfold maxNum at hmm
  rw [bN] at hg
  have hcase : (q != 0) = true ∨ (q = 0 ∧ ((u : Int) != (N.size : Int)) = true) ∨ (q = 0 ∧ u = N.size ∧ 63 < m) := by
    rcases small_cases 63 hg with ⟨h, h'⟩ | ⟨h, h1, h'⟩ | ⟨h, h1, h2, h3, h'⟩ | ⟨h, h1, h2, h3, h'⟩
    · exact .inl (by simpa using h)
    · exact .inr (.inl ⟨h, by rw [hN, size_bsOf]; simp; omega⟩)
    · exact .inr (.inr ⟨h, by rw [hN, size_bsOf]; exact h1, h2⟩)
    · rw [hno] at h'; cases h'
  rw [parseP_five ha, hno]
  show Calls _ _ _ w (RB (.tuple #[.agg pfZ, .int .i64 6]) w)
  obtain ⟨Z, hZ⟩ : ∃ Z, Z = pfZ := ⟨_, rfl⟩
  have HLIT : Hid ((#[.int .i64 0, .string ⟨#[]⟩, .string ⟨#[]⟩, .string ⟨#[]⟩, .string ⟨#[]⟩] : Array Value) = Z) := Lib.hid (by rw [hZ]; kernel_rfl)
  have HZN : Hid (Z.size = 5) := Lib.hid (by rw [hZ]; kernel_rfl)
  have HZS : Hid ((Tryz.prog.info? 78).map (·.size) = some Z.size) := Lib.hid (by rw [hZ]; kernel_rfl)
  have HZO : Hid (Z.all (·.oneCell') = true) := Lib.hid (by rw [hZ]; exact by simp [dlZ, pfZ, msZ, dlA, pfA, msA, byV, zero32, Value.oneCell'])
  rw [← hZ]
  obtain ⟨w0, hw0⟩ : ∃ w0, w0 = w.alloc (.cells Z 78) := ⟨_, rfl⟩
  have hb0 : Below w.heap.size w w0 := by rw [hw0]; exact (Below.refl _ _).alloc (Nat.le_refl _) _
  have HX0 : Hid (w0.heap[w.heap.size]? = some (.cells Z 78 (0, 0))) := Lib.hid (by rw [hw0]; exact heap_new _ _)
  have lX0 := lt_row HX0.out
  have HBL0 := Lib.hid hb0
  have HW0 := Lib.hid hw0
  clear hw0 hb0 hZ
  clear ha hg hno hN bN hA bA hX bX hD bD hY bY
  rcases hcase with hq | ⟨rfl, hq⟩ | ⟨rfl, rfl, hq⟩
  all_goals
    go_enter Tryz.func47, Tryz.ntmps47
    go_wp2_with fail
    rw [HLIT.out, ← HW0.out]
    refine (HALL.out w0).mono ?_
    rintro e w1 ⟨v, rfl, hl, hb⟩
    obtain ⟨B, cap, rfl, hB, hc⟩ := list_n 5 hl rfl (by omega)
    clear hl
    have hc0_1 : w1.cell? ⟨B, 0, none⟩ = some (.string N) := by rw [HN.out]; exact hc 0 _ rfl
    have hBX : ¬ w.heap.size = B := by omega
    clear hc hB
    have HX1 := Lib.hid ((hb.block _ lX0).trans HX0.out)
    have lX1 := lt_row HX1.out
    have HBL1 := Lib.hid (HBL0.out.trans (hb.mono HBL0.out.size))
    clear hb 
    clear lX0
    have hc0x1 := hc0_1
    clear hc0_1
    go_wp2_with fail
    refine (HG.out w1).mono ?_
    rintro e w2 ⟨rfl, hb⟩
    have HX2 := Lib.hid ((hb.block _ lX1).trans HX1.out)
    have lX2 := lt_row HX2.out
    have HBL2 := Lib.hid (HBL1.out.trans (hb.mono HBL1.out.size))
    have hc0x2 := below_cell hb hc0x1
    clear hb hc0x1
    clear lX1
    go_wp2_with (first | (refine wpList_store_rowA rfl _ _ _ rfl w.heap.size Z rfl (by rw [← HLIT.out]; rfl) _ _ HX2.out HZS.out rfl HZO.out ?_) | fail)
    intro wf hwf
    go_wp2
    refine bodyPost_ret (v := .tuple #[.agg Z, .int .i64 6]) (results_cell_slot rfl _ _ w.heap.size 78 Z (0, 0) _ rfl (by rw [hwf.out]; exact setRow_at HX2.out) Tryz.underlying78 rfl HZS.out rfl) rfl ⟨rfl, by rw [hwf.out]; exact below_row HBL2.out (Nat.le_refl _) _⟩


set_option maxRecDepth 100000 in
set_option maxHeartbeats 4000000 in
theorem rp_Parse_yes (w : World) (s : ByteArray) (hs : s.size ≤ 140737488351232) {n a x b y : List UInt8} (ha : all (bl s) = ([n, a, x, b, y], 0)) {z : Nat} (hyes : small 63 n = some z) :
    Calls Tryz.prog 47 #[.string s] w (RB (pfV (parseP (bl s))) w) := by
  have hA := fun w => Ref1A.All_ok w s (by unfold maxLen; omega)
  unfold AllPost at hA
  rw [ha] at hA
  have HALL := Lib.hid hA
  clear hA
  obtain ⟨N, hN⟩ : ∃ bb, bb = bsOf n := ⟨_, rfl⟩
  have bN : bl N = n := by rw [hN, bl_bsOf]
  have zN : N.size ≤ 8192 := by rw [hN]; exact parts_len ha _ (by simp)
  have HN := Lib.hid hN
  obtain ⟨A, hA⟩ : ∃ bb, bb = bsOf a := ⟨_, rfl⟩
  have bA : bl A = a := by rw [hA, bl_bsOf]
  have zA : A.size ≤ 8192 := by rw [hA]; exact parts_len ha _ (by simp)
  have HA := Lib.hid hA
  obtain ⟨X, hX⟩ : ∃ bb, bb = bsOf x := ⟨_, rfl⟩
  have bX : bl X = x := by rw [hX, bl_bsOf]
  have zX : X.size ≤ 8192 := by rw [hX]; exact parts_len ha _ (by simp)
  have HX := Lib.hid hX
  obtain ⟨D, hD⟩ : ∃ bb, bb = bsOf b := ⟨_, rfl⟩
  have bD : bl D = b := by rw [hD, bl_bsOf]
  have zD : D.size ≤ 8192 := by rw [hD]; exact parts_len ha _ (by simp)
  have HD := Lib.hid hD
  obtain ⟨Y, hY⟩ : ∃ bb, bb = bsOf y := ⟨_, rfl⟩
  have bY : bl Y = y := by rw [hY, bl_bsOf]
  have zY : Y.size ≤ 8192 := by rw [hY]; exact parts_len ha _ (by simp)
  have HY := Lib.hid hY
  obtain ⟨m, u, q, hg⟩ : ∃ m u q, getNum (bl N) = (m, u, q) := ⟨_, _, _, rfl⟩
  have HG := Lib.hid (fun w => Ref1K.GetNum_at w N (by unfold maxLen; omega) hg)
  have hmm := getNum_le hg
  unfold maxNum at hmm
  rw [bN] at hg
  obtain ⟨rfl, rfl, rfl, h63⟩ : q = 0 ∧ u = N.size ∧ m = z ∧ m ≤ 63 := by
    rcases small_cases 63 hg with ⟨h, h'⟩ | ⟨h, h1, h'⟩ | ⟨h, h1, h2, h3, h'⟩ | ⟨h, h1, h2, h3, h'⟩
    · rw [hyes] at h'; cases h'
    · rw [hyes] at h'; cases h'
    · rw [hyes] at h'; cases h'
    · rw [hyes] at h'; cases h'; exact ⟨h, by rw [hN, size_bsOf]; exact h1, rfl, h2⟩
  rw [parseP_five ha, hyes]
  show Calls _ _ _ w (RB (.tuple #[.agg (pfA m (bsOf a) (bsOf x) (bsOf b) (bsOf y)), .int .i64 0]) w)
  rw [← hA, ← hX, ← hD, ← hY]
  obtain ⟨Z, hZ⟩ : ∃ Z, Z = pfZ := ⟨_, rfl⟩
  have HLIT : Hid ((#[.int .i64 0, .string ⟨#[]⟩, .string ⟨#[]⟩, .string ⟨#[]⟩, .string ⟨#[]⟩] : Array Value) = Z) := Lib.hid (by rw [hZ]; kernel_rfl)
  have HZN : Hid (Z.size = 5) := Lib.hid (by rw [hZ]; kernel_rfl)
  have HZS : Hid ((Tryz.prog.info? 78).map (·.size) = some Z.size) := Lib.hid (by rw [hZ]; kernel_rfl)
  have HZO : Hid (Z.all (·.oneCell') = true) := Lib.hid (by rw [hZ]; exact by simp [dlZ, pfZ, msZ, dlA, pfA, msA, byV, zero32, Value.oneCell'])
  obtain ⟨w0, hw0⟩ : ∃ w0, w0 = w.alloc (.cells Z 78) := ⟨_, rfl⟩
  have hb0 : Below w.heap.size w w0 := by rw [hw0]; exact (Below.refl _ _).alloc (Nat.le_refl _) _
  have HX0 : Hid (w0.heap[w.heap.size]? = some (.cells Z 78 (0, 0))) := Lib.hid (by rw [hw0]; exact heap_new _ _)
  have lX0 := lt_row HX0.out
  have HBL0 := Lib.hid hb0
  have HW0 := Lib.hid hw0
  clear hw0 hb0 hZ
  obtain ⟨E1, hE1⟩ : ∃ E, E = pfA m A X D Y := ⟨_, rfl⟩
  have hE1n : E1.size = 5 := by rw [hE1]; rfl
  have HE1S : Hid ((Tryz.prog.info? 78).map (·.size) = some E1.size) := Lib.hid (by rw [hE1n, ← HZN.out]; exact HZS.out)
  have HE1Z : Hid (Z.size = E1.size) := Lib.hid (by rw [hE1n, HZN.out])
  have HE1N : Hid (5 = E1.size) := Lib.hid hE1n.symm
  have HE1O : Hid (E1.all (·.oneCell') = true) := Lib.hid (by rw [hE1]; simp [pfA, Value.oneCell'])
  have HE1 := Lib.hid hE1
  clear hE1n
  rw [← hE1]
  clear ha hg hyes hE1 hN bN hA bA hX bX hD bD hY bY
  go_enter Tryz.func47, Tryz.ntmps47
  go_wp2_with fail
  rw [HLIT.out, ← HW0.out]
  refine (HALL.out w0).mono ?_
  rintro e w1 ⟨v, rfl, hl, hb⟩
  obtain ⟨B, cap, rfl, hB, hc⟩ := list_n 5 hl rfl (by omega)
  clear hl
  have hc0_1 : w1.cell? ⟨B, 0, none⟩ = some (.string N) := by rw [HN.out]; exact hc 0 _ rfl
  have hc1_1 : w1.cell? ⟨B, 1, none⟩ = some (.string A) := by rw [HA.out]; exact hc 1 _ rfl
  have hc2_1 : w1.cell? ⟨B, 2, none⟩ = some (.string X) := by rw [HX.out]; exact hc 2 _ rfl
  have hc3_1 : w1.cell? ⟨B, 3, none⟩ = some (.string D) := by rw [HD.out]; exact hc 3 _ rfl
  have hc4_1 : w1.cell? ⟨B, 4, none⟩ = some (.string Y) := by rw [HY.out]; exact hc 4 _ rfl
  have hBX : ¬ w.heap.size = B := by omega
  clear hc hB
  have HX1 := Lib.hid ((hb.block _ lX0).trans HX0.out)
  have lX1 := lt_row HX1.out
  have HBL1 := Lib.hid (HBL0.out.trans (hb.mono HBL0.out.size))
  clear hb 
  clear lX0
  have hc0x1 := hc0_1
  clear hc0_1
  have hc1x1 := hc1_1
  clear hc1_1
  have hc2x1 := hc2_1
  clear hc2_1
  have hc3x1 := hc3_1
  clear hc3_1
  have hc4x1 := hc4_1
  clear hc4_1
  go_wp2_with fail
  refine (HG.out w1).mono ?_
  rintro e w2 ⟨rfl, hb⟩
  have HX2 := Lib.hid ((hb.block _ lX1).trans HX1.out)
  have lX2 := lt_row HX2.out
  have HBL2 := Lib.hid (HBL1.out.trans (hb.mono HBL1.out.size))
  have hc0x2 := below_cell hb hc0x1
  have hc1x2 := below_cell hb hc1x1
  have hc2x2 := below_cell hb hc2x1
  have hc3x2 := below_cell hb hc3x1
  have hc4x2 := below_cell hb hc4x1
  clear hb hc0x1 hc1x1 hc2x1 hc3x1 hc4x1
  clear lX1
  go_wp2_with fail
  refine wp_region_noPanic ?_
  refine Wr.region_K (S := (fun W => W.cell? ⟨B, 1, none⟩ = some (.string A) ∧ W.cell? ⟨B, 2, none⟩ = some (.string X) ∧ W.cell? ⟨B, 3, none⟩ = some (.string D) ∧ W.cell? ⟨B, 4, none⟩ = some (.string Y))) (K := []) (by kernel_rfl) ?_
  change Wr.wpAnyK _ _ _ _ _ _ _ _ _ (World.drew w2)
  have hBL0 : Below w2.heap.size w2 (World.drew w2) := Bl.drew (Below.refl _ _)
  have hS0 : (World.drew w2).cell? ⟨B, 1, none⟩ = some (.string A) ∧ (World.drew w2).cell? ⟨B, 2, none⟩ = some (.string X) ∧ (World.drew w2).cell? ⟨B, 3, none⟩ = some (.string D) ∧ (World.drew w2).cell? ⟨B, 4, none⟩ = some (.string Y) := ⟨below_cell hBL0 hc1x2, below_cell hBL0 hc2x2, below_cell hBL0 hc3x2, below_cell hBL0 hc4x2⟩
  refine Wr.wpAnyK_take (i := 0) (v := ?_) rfl (by kernel_rfl) (fun _ _ _ h => h) (Or.inl ⟨by rfl, ?_⟩) hS0 ?_
  rotate_left
  · intro wq hSw
    obtain ⟨q0, q1, q2, q3⟩ := hSw
    go_simp
    rfl
  simp only [Act.put, sx1, sx2, sx3, sx4, sx5, sx6]
  refine Wr.wpAnyK_take (i := 1) (v := (.int .i64 m)) rfl (by kernel_rfl) (fun _ _ _ h => h) (Or.inl ⟨by rfl, ?_⟩) hS0 ?_
  · intro wq hSw
    obtain ⟨q0, q1, q2, q3⟩ := hSw
    have hwm : IntKind.i64.wrap (m : Int) = m := IntWalk.i64_in _ (by omega)
    (go_simp; first | done | rfl | rw [hwm])
  simp only [Act.put, sx1, sx2, sx3, sx4, sx5, sx6]
  refine Wr.wpAnyK_take (i := 2) (v := ?_) rfl (by kernel_rfl) (fun _ _ _ h => h) (Or.inl ⟨by rfl, ?_⟩) hS0 ?_
  rotate_left
  · intro wq hSw
    obtain ⟨q0, q1, q2, q3⟩ := hSw
    go_simp
    rfl
  simp only [Act.put, sx1, sx2, sx3, sx4, sx5, sx6]
  refine Wr.wpAnyK_take (i := 3) (v := ?_) rfl (by kernel_rfl) (fun _ _ _ h => h) (Or.inl ⟨by rfl, ?_⟩) hS0 ?_
  rotate_left
  · intro wq hSw
    obtain ⟨q0, q1, q2, q3⟩ := hSw
    go_simp
    rfl
  simp only [Act.put, sx1, sx2, sx3, sx4, sx5, sx6]
  refine Wr.wpAnyK_take (i := 4) (v := ?_) rfl (by kernel_rfl) (fun _ _ _ h => h) (Or.inl ⟨by rfl, ?_⟩) hS0 ?_
  rotate_left
  · intro wq hSw
    obtain ⟨q0, q1, q2, q3⟩ := hSw
    go_simp
    rfl
  simp only [Act.put, sx1, sx2, sx3, sx4, sx5, sx6]
  refine Wr.wpAnyK_take (i := 5) (v := ?_) rfl (by kernel_rfl) (fun _ _ _ h => h) (Or.inl ⟨by rfl, ?_⟩) hS0 ?_
  rotate_left
  · intro wq hSw
    obtain ⟨q0, q1, q2, q3⟩ := hSw
    go_simp
    rfl
  simp only [Act.put, sx1, sx2, sx3, sx4, sx5, sx6]
  refine Wr.wpAnyK_take (i := 6) (v := ?_) rfl (by kernel_rfl) (fun _ _ _ h => h) (Or.inl ⟨by rfl, ?_⟩) hS0 ?_
  rotate_left
  · intro wq hSw
    obtain ⟨q0, q1, q2, q3⟩ := hSw
    go_simp
    rfl
  simp only [Act.put, sx1, sx2, sx3, sx4, sx5, sx6]
  refine Wr.wpAnyK_take (i := 7) (v := ?_) rfl (by kernel_rfl) (fun _ _ _ h => h) (Or.inl ⟨by rfl, ?_⟩) hS0 ?_
  rotate_left
  · intro wq hSw
    obtain ⟨q0, q1, q2, q3⟩ := hSw
    go_simp
    rfl
  simp only [Act.put, sx1, sx2, sx3, sx4, sx5, sx6]
  refine Wr.wpAnyK_take (i := 8) (v := ?_) rfl (by kernel_rfl) (fun _ _ _ h => h) (Or.inl ⟨by rfl, ?_⟩) hS0 ?_
  rotate_left
  · intro wq hSw
    obtain ⟨q0, q1, q2, q3⟩ := hSw
    go_simp
    rfl
  simp only [Act.put, sx1, sx2, sx3, sx4, sx5, sx6]
  refine Wr.wpAnyK_take (i := 9) (v := ?_) rfl (by kernel_rfl) (fun _ _ _ h => h) (Or.inl ⟨by rfl, ?_⟩) hS0 ?_
  rotate_left
  · intro wq hSw
    obtain ⟨q0, q1, q2, q3⟩ := hSw
    go_simp
    rfl
  simp only [Act.put, sx1, sx2, sx3, sx4, sx5, sx6]
  refine Wr.wpAnyK_take (i := 10) (v := ?_) rfl (by kernel_rfl) (fun _ _ _ h => h) (Or.inl ⟨by rfl, ?_⟩) hS0 ?_
  rotate_left
  · intro wq hSw
    obtain ⟨q0, q1, q2, q3⟩ := hSw
    go_simp
    rfl
  simp only [Act.put, sx1, sx2, sx3, sx4, sx5, sx6]
  refine Wr.wpAnyK_take (i := 11) (v := ?_) rfl (by kernel_rfl) (fun _ _ _ h => h) (Or.inl ⟨by rfl, ?_⟩) hS0 ?_
  rotate_left
  · intro wq hSw
    obtain ⟨q0, q1, q2, q3⟩ := hSw
    go_simp
    rfl
  simp only [Act.put, sx1, sx2, sx3, sx4, sx5, sx6]
  refine Wr.wpAnyK_take (i := 12) (v := ?_) rfl (by kernel_rfl) (fun _ _ _ h => h) (Or.inl ⟨by rfl, ?_⟩) hS0 ?_
  rotate_left
  · intro wq hSw
    obtain ⟨q0, q1, q2, q3⟩ := hSw
    go_simp
    rfl
  simp only [Act.put, sx1, sx2, sx3, sx4, sx5, sx6]
  refine Wr.wpAnyK_take (i := 13) (v := ?_) rfl (by kernel_rfl) (fun _ _ _ h => h) (Or.inl ⟨by rfl, ?_⟩) hS0 ?_
  rotate_left
  · intro wq hSw
    obtain ⟨q0, q1, q2, q3⟩ := hSw
    go_simp
    rfl
  simp only [Act.put, sx1, sx2, sx3, sx4, sx5, sx6]
  refine Wr.wpAnyK_take (i := 14) (v := .agg E1) rfl (by kernel_rfl) (fun _ _ _ h => h) (WrC.yields_build _ _ rfl (by rfl) E1 (by rw [HE1.out]; kernel_rfl)) hS0 ?_
  simp only [Act.put, sx1, sx2, sx3, sx4, sx5, sx6]
  refine Wr.wpAnyK_one (i := 15) (by kernel_rfl) ?_
  refine WrC.wpOp_store_row rfl (by rfl) _ _ _ rfl w.heap.size E1 rfl rfl _ _ (show (World.drew w2).heap[w.heap.size]? = some (.cells Z 78 (0, 0)) from HX2.out) HE1S.out HE1Z.out HE1O.out ?_
  intro u1 hu1
  have hbX : Below w.heap.size w u1 := by rw [hu1.out]; exact below_row (HBL2.out.trans (hBL0.mono HBL2.out.size)) (Nat.le_refl _) _
  have hyX : u1.heap[w.heap.size]? = some (.cells E1 78 (0, 0)) := by rw [hu1.out]; exact setRow_at (show (World.drew w2).heap[w.heap.size]? = some (.cells Z 78 (0, 0)) from HX2.out)
  have hS1 : u1.cell? ⟨B, 1, none⟩ = some (.string A) ∧ u1.cell? ⟨B, 2, none⟩ = some (.string X) ∧ u1.cell? ⟨B, 3, none⟩ = some (.string D) ∧ u1.cell? ⟨B, 4, none⟩ = some (.string Y) := ⟨by rw [hu1.out]; exact (cell_setRow_far (by omega)).trans hS0.1, by rw [hu1.out]; exact (cell_setRow_far (by omega)).trans hS0.2.1, by rw [hu1.out]; exact (cell_setRow_far (by omega)).trans hS0.2.2.1, by rw [hu1.out]; exact (cell_setRow_far (by omega)).trans hS0.2.2.2⟩
  refine ⟨hS1, ?_⟩
  simp only [Act.put, sx1, sx2, sx3, sx4, sx5, sx6]
  refine Wr.wpAnyK_take (i := 16) (v := ?_) rfl (by kernel_rfl) (fun _ _ _ h => h) (Or.inl ⟨by rfl, ?_⟩) hS1 ?_
  rotate_left
  · intro wq hSw
    obtain ⟨q0, q1, q2, q3⟩ := hSw
    go_simp
    rfl
  simp only [Act.put, sx1, sx2, sx3, sx4, sx5, sx6]
  refine Wr.wpAnyK_done (by kernel_rfl) (NoPanic.normal ?_) _
  go_wp2
  refine bodyPost_ret (v := .tuple #[.agg E1, .int .i64 0]) (results_cell_slot rfl _ _ w.heap.size 78 E1 (0, 0) _ rfl hyX Tryz.underlying78 rfl HE1S.out rfl) rfl ⟨rfl, hbX⟩


theorem rp_Parse (w : World) (s : ByteArray) (hs : s.size ≤ 140737488351232) :
    Calls Tryz.prog 47 #[.string s] w (RB (pfV (parseP (bl s))) w) := by
  obtain ⟨l, y, ha⟩ : ∃ l y, all (bl s) = (l, y) := ⟨_, _, rfl⟩
  by_cases h0 : y = 0
  · subst h0
    by_cases h2 : l.length = 5
    · match l, h2, ha with
      | [n, a, x, b, y], _, ha =>
        cases h : small 63 n with
        | none => exact rp_Parse_no w s hs ha h
        | some z => exact rp_Parse_yes w s hs ha h
    · exact rp_Parse_bad w s hs ha (.inr ⟨rfl, h2⟩)
  · exact rp_Parse_bad w s hs ha (.inl h0)

end Go.Proofs.YtlincoeldehkfaaGreatDoor.WireP
