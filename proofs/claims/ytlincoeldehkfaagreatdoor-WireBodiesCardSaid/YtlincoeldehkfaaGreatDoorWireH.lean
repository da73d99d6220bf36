/-
  WHAT IS PROVED: rejections, and what they tell. Condition: what each theorem names.
-/
import Derived.Test.YtlincoeldehkfaaGreatDoorWireA
import Derived.Test.YtlincoeldehkfaaGreatDoorWireP
namespace Go.Proofs.YtlincoeldehkfaaGreatDoor.WireH
open Go Go.RowKit Go.Shelf Go.Proofs.YtlincoeldehkfaaGreatDoor Go.Proofs.YtlincoeldehkfaaGreatDoor.OctetS Go.Proofs.YtlincoeldehkfaaGreatDoor.IdentS Go.Proofs.YtlincoeldehkfaaGreatDoor.EntS Go.Proofs.YtlincoeldehkfaaGreatDoor.WireS Go.Proofs.YtlincoeldehkfaaGreatDoor.OctG Go.Proofs.YtlincoeldehkfaaGreatDoor.OctP Go.Proofs.YtlincoeldehkfaaGreatDoor.OctQ Go.Proofs.YtlincoeldehkfaaGreatDoor.OctA Go.Proofs.YtlincoeldehkfaaGreatDoor.IdentP Go.Proofs.YtlincoeldehkfaaGreatDoor.IdentR Go.Proofs.YtlincoeldehkfaaGreatDoor.EventP Go.Proofs.YtlincoeldehkfaaGreatDoor.EventC Go.Proofs.YtlincoeldehkfaaGreatDoor.EntP Go.Proofs.YtlincoeldehkfaaGreatDoor.WireT Go.Proofs.YtlincoeldehkfaaGreatDoor.Steps Go.Proofs.YtlincoeldehkfaaGreatDoor.Wr Go.Proofs.YtlincoeldehkfaaGreatDoor.WireA
set_option linter.unusedVariables false
set_option linter.unusedSimpArgs false

/-- A rejection's body, or why there is none. -/
def rejectV (h : List UInt8) (c : Int) : Value := if 1 ≤ c ∧ c ≤ 15 then .tuple #[.string (bsOf (rejOf h c.toNat)), .int .i64 0] else .tuple #[.string ⟨#[]⟩, .int .i64 1]
set_option maxRecDepth 100000 in
set_option maxHeartbeats 4000000 in
theorem Reject_ok (w : World) (p : Array Value) (h : List UInt8) (c : Int) (hp : p = (byV h).toArray) (hh : h.length = 32) : Calls Tryz.prog 12 #[.agg p, .int .i64 c] w (RB (rejectV h c) w) := by
  have hpz : p.size = 32 := by rw [hp]; simp [byV_length, hh]
  obtain ⟨w0, hw0⟩ : ∃ w0, w0 = w.alloc (.cells p 34) := ⟨_, rfl⟩
  have hb0 : Below w.heap.size w w0 := by rw [hw0]; exact ((Below.refl _ w).alloc (Nat.le_refl _) _)
  have hx0 : w0.heap[w.heap.size]? = some (.cells p 34 (0, 0)) := by rw [hw0]; exact heap_new _ _
  have HBL0 := Lib.hid hb0
  have HW0 := Lib.hid hw0
  have lx0 := lt_row hx0
  obtain ⟨cx0, fx0⟩ := row_facts hx0
  unfold rejectV
  by_cases hc : 1 ≤ c ∧ c ≤ 15
  · skip
    rw [if_pos hc]
    obtain ⟨h1, h2⟩ := hc
    obtain ⟨m, rfl⟩ : ∃ m : Nat, c = m := ⟨c.toNat, by omega⟩
    rw [Int.toNat_natCast]
    have hf := rej_fits (h := h) (c := m) hh (by omega)
    obtain ⟨n1, hn1⟩ : ∃ nt, nt = bsOf (num m) := ⟨_, rfl⟩
    obtain ⟨q, hq⟩ : ∃ nt, nt = bsOf h := ⟨_, rfl⟩
    have hmap : [h, num m] = [q, n1].map bl := by simp [hn1, hq, bl_bsOf]
    unfold rejOf
    rw [hmap] at hf ⊢
    obtain ⟨out, hout⟩ : ∃ out, out = bsOf (OctetS.list ([q, n1].map bl)) := ⟨_, rfl⟩
    have hL := fun w v h => List_ok w v [q, n1] h hf
    have hN := fun w => Num_ok w m (by unfold maxNum; omega)
    rw [← hn1] at hN
    rw [← hout] at hL ⊢
    have HL := Lib.hid hL
    have HN := Lib.hid hN
    have HQ := Lib.hid hq
    have HP := Lib.hid hp
    clear hL hN hq hout hmap hf hn1 hw0 hb0 hp
    go_enter Tryz.func12, Tryz.ntmps12
    go_wp2_with fail
    rw [← HW0.out]
    refine (HN.out w0).mono ?_
    rintro e w1 ⟨rfl, hb⟩
    have HBL1 := Lib.hid (HBL0.out.trans (hb.mono HBL0.out.size))
    have hx1 := (hb.block _ lx0).trans hx0
    have lx1 := lt_row hx1
    obtain ⟨cx1, fx1⟩ := row_facts hx1
    clear hb hx0 cx0 fx0
    have hcv := run_text' w1 57 9 5 Tryz.underlying57 Tryz.underlying5 Tryz.underlying9 (.slice (some ⟨w.heap.size, 0, none⟩) 32 32) h (by have := EventB.sl_built (n := 32) hx1 hpz.symm (by simp [maxLen]); rw [hh]; rw [HP.out] at this; simpa using this)
    rw [← HQ.out] at hcv
    clear hpz
    go_wp2_with fail
    refine (HL.out _ _ (EventB.sl_built (heap_new w1 _) rfl (by simp [maxLen]))).mono ?_
    rintro e w2 ⟨rfl, hb⟩
    have hb2 := HBL1.out.trans (((Below.refl _ w1).alloc (Nat.le_refl _) _).trans (hb.mono (by simp)) |>.mono HBL1.out.size)
    have HB2 := Lib.hid hb2
    clear hb hb2 hcv
    go_wp2
    go_ret2
    exact ⟨rfl, HB2.out⟩
  · skip
    rw [if_neg hc]
    have hc' : c < 1 ∨ (1 ≤ c ∧ 15 < c) := by omega
    clear hc hp hpz
    rcases hc' with h1 | ⟨h1, h2⟩
    all_goals
      go_enter Tryz.func12, Tryz.ntmps12
      go_wp2
      go_ret2
      exact ⟨rfl, (Below.refl _ _).alloc (Nat.le_refl _) _⟩


set_option maxRecDepth 100000 in
set_option maxHeartbeats 4000000 in
theorem Rejected_bad (w : World) (s : ByteArray) (hs : s.size ≤ 140737488351232) {l : List (List UInt8)} {y : Int} (ha : all (bl s) = (l, y)) (hbad : y ≠ 0 ∨ (y = 0 ∧ l.length ≠ 2)) :
    Calls Tryz.prog 16 #[.string s] w (RB (rejV (rejected (bl s))) w) := by
  have hA := fun w => OctA.All_ok w s (by unfold maxLen; omega)
  unfold AllPost at hA
  rw [ha] at hA
  have HALL := Lib.hid hA
  clear hA
  rw [rejected_bad ha (by omega)]
  show Calls _ _ _ w (RB (.tuple #[.agg (byV zero32).toArray, .int .i64 0, .int .i64 6]) w)
  obtain ⟨Z, hZ⟩ : ∃ Z, Z = (byV zero32).toArray := ⟨_, rfl⟩
  have HLIT : Hid ((#[.int .u8 0, .int .u8 0, .int .u8 0, .int .u8 0, .int .u8 0, .int .u8 0, .int .u8 0, .int .u8 0, .int .u8 0, .int .u8 0, .int .u8 0, .int .u8 0, .int .u8 0, .int .u8 0, .int .u8 0, .int .u8 0, .int .u8 0, .int .u8 0, .int .u8 0, .int .u8 0, .int .u8 0, .int .u8 0, .int .u8 0, .int .u8 0, .int .u8 0, .int .u8 0, .int .u8 0, .int .u8 0, .int .u8 0, .int .u8 0, .int .u8 0, .int .u8 0] : Array Value) = Z) := Lib.hid (by rw [hZ]; kernel_rfl)
  have HZN : Hid (Z.size = 32) := Lib.hid (by rw [hZ]; kernel_rfl)
  have HZS : Hid ((Tryz.prog.info? 34).map (·.size) = some Z.size) := Lib.hid (by rw [hZ]; kernel_rfl)
  have HZO : Hid (Z.all (·.oneCell') = true) := Lib.hid (by rw [hZ]; exact by simp [dlZ, pfZ, msZ, dlA, pfA, msA, byV, zero32, Value.oneCell'])
  rw [← hZ]
  obtain ⟨w0, hw0⟩ : ∃ w0, w0 = (w.alloc (.cells Z 34)).alloc (.cells Z 34) := ⟨_, rfl⟩
  have hb0 : Below w.heap.size w w0 := by rw [hw0]; exact ((Below.refl _ _).alloc (Nat.le_refl _) _).alloc (by simp) _
  have HX0 : Hid (w0.heap[w.heap.size]? = some (.cells Z 34 (0, 0))) := Lib.hid (by rw [hw0]; exact heap_at (heap_new _ _) _)
  have lX0 := lt_row HX0.out
  have HBL0 := Lib.hid hb0
  have HW0 := Lib.hid hw0
  have HY0 : Hid (w0.heap[w.heap.size + 1]? = some (.cells Z 34 (0, 0))) := Lib.hid (by rw [hw0]; exact heap_new' _ (by simp))
  have lY0 := lt_row HY0.out
  clear hw0 hb0 hZ
  have hcase : (y != 0) = true ∨ (y = 0 ∧ ((l.length : Int) != 2) = true) := by
    rcases hbad with h | ⟨h0, h⟩
    · exact .inl (by simpa using h)
    · exact .inr ⟨h0, by simp; omega⟩
  clear hbad ha
  rcases hcase with hy | ⟨rfl, hy⟩
  all_goals
    go_enter Tryz.func16, Tryz.ntmps16
    go_wp2_with fail
    rw [HLIT.out, ← HW0.out]
    refine (HALL.out w0).mono ?_
    rintro e w1 ⟨v, rfl, hl, hb⟩
    obtain ⟨av, cap, rfl, _, _⟩ := (Sl.ofOwn hl).form
    clear hl
    have HX1 := Lib.hid ((hb.block _ lX0).trans HX0.out)
    have lX1 := lt_row HX1.out
    have HY1 := Lib.hid ((hb.block _ lY0).trans HY0.out)
    have lY1 := lt_row HY1.out
    have HBL1 := Lib.hid (HBL0.out.trans (hb.mono HBL0.out.size))
    clear hb 
    clear lX0 lY0
    go_wp2_with (first | (refine wpList_load_row rfl _ _ rfl (w.heap.size + 1) rfl _ Z (0, 0) _ HY1.out Tryz.underlying34 rfl HZS.out ?_) | (refine wpList_store_rowA rfl _ _ _ rfl w.heap.size Z rfl rfl _ _ HX1.out HZS.out rfl HZO.out ?_) | fail)
    intro wf hwf
    go_wp2
    refine bodyPost_ret (v := .tuple #[.agg Z, .int .i64 0, .int .i64 6]) (results_cell_slot2 rfl _ _ w.heap.size 34 Z (0, 0) _ rfl (by rw [hwf.out]; exact setRow_at HX1.out) Tryz.underlying34 rfl HZS.out rfl rfl) rfl ⟨rfl, by rw [hwf.out]; exact below_row HBL1.out (Nat.le_refl _) _⟩


set_option maxRecDepth 100000 in
set_option maxHeartbeats 4000000 in
theorem Rejected_len (w : World) (s : ByteArray) (hs : s.size ≤ 140737488351232) {h c : List UInt8} (ha : all (bl s) = ([h, c], 0)) (h3 : h.length ≠ 32) :
    Calls Tryz.prog 16 #[.string s] w (RB (rejV (rejected (bl s))) w) := by
  have hA := fun w => OctA.All_ok w s (by unfold maxLen; omega)
  unfold AllPost at hA
  rw [ha] at hA
  have HALL := Lib.hid hA
  clear hA
  obtain ⟨P, hP⟩ : ∃ bb, bb = bsOf h := ⟨_, rfl⟩
  have bP : bl P = h := by rw [hP, bl_bsOf]
  have zP : P.size ≤ 8192 := by rw [hP]; exact parts_len ha _ (by simp)
  have HP := Lib.hid hP
  obtain ⟨C, hC⟩ : ∃ bb, bb = bsOf c := ⟨_, rfl⟩
  have bC : bl C = c := by rw [hC, bl_bsOf]
  have zC : C.size ≤ 8192 := by rw [hC]; exact parts_len ha _ (by simp)
  have HC := Lib.hid hC
  obtain ⟨z, hz⟩ : ∃ z, z = numI 15 c := ⟨_, rfl⟩
  have HN : Hid (∀ w, Calls Tryz.prog 27 #[.string C, .int .u64 15] w fun e w' => e = .returned (.int .i64 z) ∧ w = w') := Lib.hid (by rw [hz, ← bC]; exact fun w => w_number w C (by unfold maxLen; omega) 15 15 rfl (by omega))
  rw [rejected_two ha, if_neg (fun h => h3 h.1)]
  show Calls _ _ _ w (RB (.tuple #[.agg (byV zero32).toArray, .int .i64 0, .int .i64 6]) w)
  obtain ⟨Z, hZ⟩ : ∃ Z, Z = (byV zero32).toArray := ⟨_, rfl⟩
  have HLIT : Hid ((#[.int .u8 0, .int .u8 0, .int .u8 0, .int .u8 0, .int .u8 0, .int .u8 0, .int .u8 0, .int .u8 0, .int .u8 0, .int .u8 0, .int .u8 0, .int .u8 0, .int .u8 0, .int .u8 0, .int .u8 0, .int .u8 0, .int .u8 0, .int .u8 0, .int .u8 0, .int .u8 0, .int .u8 0, .int .u8 0, .int .u8 0, .int .u8 0, .int .u8 0, .int .u8 0, .int .u8 0, .int .u8 0, .int .u8 0, .int .u8 0, .int .u8 0, .int .u8 0] : Array Value) = Z) := Lib.hid (by rw [hZ]; kernel_rfl)
  have HZN : Hid (Z.size = 32) := Lib.hid (by rw [hZ]; kernel_rfl)
  have HZS : Hid ((Tryz.prog.info? 34).map (·.size) = some Z.size) := Lib.hid (by rw [hZ]; kernel_rfl)
  have HZO : Hid (Z.all (·.oneCell') = true) := Lib.hid (by rw [hZ]; exact by simp [dlZ, pfZ, msZ, dlA, pfA, msA, byV, zero32, Value.oneCell'])
  rw [← hZ]
  obtain ⟨w0, hw0⟩ : ∃ w0, w0 = (w.alloc (.cells Z 34)).alloc (.cells Z 34) := ⟨_, rfl⟩
  have hb0 : Below w.heap.size w w0 := by rw [hw0]; exact ((Below.refl _ _).alloc (Nat.le_refl _) _).alloc (by simp) _
  have HX0 : Hid (w0.heap[w.heap.size]? = some (.cells Z 34 (0, 0))) := Lib.hid (by rw [hw0]; exact heap_at (heap_new _ _) _)
  have lX0 := lt_row HX0.out
  have HBL0 := Lib.hid hb0
  have HW0 := Lib.hid hw0
  have HY0 : Hid (w0.heap[w.heap.size + 1]? = some (.cells Z 34 (0, 0))) := Lib.hid (by rw [hw0]; exact heap_new' _ (by simp))
  have lY0 := lt_row HY0.out
  clear hw0 hb0 hZ
  have hPn : ((P.size : Int) != 32) = true := by rw [hP, size_bsOf]; simp; omega
  clear ha h3 hz hP hC bP bC
  go_enter Tryz.func16, Tryz.ntmps16
  go_wp2_with fail
  rw [HLIT.out, ← HW0.out]
  refine (HALL.out w0).mono ?_
  rintro e w1 ⟨v, rfl, hl, hb⟩
  obtain ⟨B, cap, rfl, hB, hc⟩ := list_n 2 hl rfl (by omega)
  clear hl
  have hc0_1 : w1.cell? ⟨B, 0, none⟩ = some (.string P) := by rw [HP.out]; exact hc 0 _ rfl
  have hc1_1 : w1.cell? ⟨B, 1, none⟩ = some (.string C) := by rw [HC.out]; exact hc 1 _ rfl
  have hBX : ¬ w.heap.size = B := by omega
  clear hc hB
  have HX1 := Lib.hid ((hb.block _ lX0).trans HX0.out)
  have lX1 := lt_row HX1.out
  have HY1 := Lib.hid ((hb.block _ lY0).trans HY0.out)
  have lY1 := lt_row HY1.out
  have HBL1 := Lib.hid (HBL0.out.trans (hb.mono HBL0.out.size))
  clear hb 
  clear lX0 lY0
  have hc0x1 := hc0_1
  clear hc0_1
  have hc1x1 := hc1_1
  clear hc1_1
  go_wp2_with (first | (refine wpList_load_row rfl _ _ rfl (w.heap.size + 1) rfl _ Z (0, 0) _ HY1.out Tryz.underlying34 rfl HZS.out ?_) | (refine wpList_store_rowA rfl _ _ _ rfl w.heap.size Z rfl rfl _ _ HX1.out HZS.out rfl HZO.out ?_) | fail)
  intro wf hwf
  go_wp2
  refine bodyPost_ret (v := .tuple #[.agg Z, .int .i64 0, .int .i64 6]) (results_cell_slot2 rfl _ _ w.heap.size 34 Z (0, 0) _ rfl (by rw [hwf.out]; exact setRow_at HX1.out) Tryz.underlying34 rfl HZS.out rfl rfl) rfl ⟨rfl, by rw [hwf.out]; exact below_row HBL1.out (Nat.le_refl _) _⟩


set_option maxRecDepth 100000 in
set_option maxHeartbeats 4000000 in
theorem Rejected_low (w : World) (s : ByteArray) (hs : s.size ≤ 140737488351232) {h c : List UInt8} (ha : all (bl s) = ([h, c], 0)) (h3 : h.length = 32) (hlow : numI 15 c < 1) :
    Calls Tryz.prog 16 #[.string s] w (RB (rejV (rejected (bl s))) w) := by
  have hA := fun w => OctA.All_ok w s (by unfold maxLen; omega)
  unfold AllPost at hA
  rw [ha] at hA
  have HALL := Lib.hid hA
  clear hA
  obtain ⟨P, hP⟩ : ∃ bb, bb = bsOf h := ⟨_, rfl⟩
  have bP : bl P = h := by rw [hP, bl_bsOf]
  have zP : P.size ≤ 8192 := by rw [hP]; exact parts_len ha _ (by simp)
  have HP := Lib.hid hP
  obtain ⟨C, hC⟩ : ∃ bb, bb = bsOf c := ⟨_, rfl⟩
  have bC : bl C = c := by rw [hC, bl_bsOf]
  have zC : C.size ≤ 8192 := by rw [hC]; exact parts_len ha _ (by simp)
  have HC := Lib.hid hC
  obtain ⟨z, hz⟩ : ∃ z, z = numI 15 c := ⟨_, rfl⟩
  have HN : Hid (∀ w, Calls Tryz.prog 27 #[.string C, .int .u64 15] w fun e w' => e = .returned (.int .i64 z) ∧ w = w') := Lib.hid (by rw [hz, ← bC]; exact fun w => w_number w C (by unfold maxLen; omega) 15 15 rfl (by omega))
  rw [rejected_two ha, if_neg (fun h => by omega)]
  show Calls _ _ _ w (RB (.tuple #[.agg (byV zero32).toArray, .int .i64 0, .int .i64 6]) w)
  obtain ⟨Z, hZ⟩ : ∃ Z, Z = (byV zero32).toArray := ⟨_, rfl⟩
  have HLIT : Hid ((#[.int .u8 0, .int .u8 0, .int .u8 0, .int .u8 0, .int .u8 0, .int .u8 0, .int .u8 0, .int .u8 0, .int .u8 0, .int .u8 0, .int .u8 0, .int .u8 0, .int .u8 0, .int .u8 0, .int .u8 0, .int .u8 0, .int .u8 0, .int .u8 0, .int .u8 0, .int .u8 0, .int .u8 0, .int .u8 0, .int .u8 0, .int .u8 0, .int .u8 0, .int .u8 0, .int .u8 0, .int .u8 0, .int .u8 0, .int .u8 0, .int .u8 0, .int .u8 0] : Array Value) = Z) := Lib.hid (by rw [hZ]; kernel_rfl)
  have HZN : Hid (Z.size = 32) := Lib.hid (by rw [hZ]; kernel_rfl)
  have HZS : Hid ((Tryz.prog.info? 34).map (·.size) = some Z.size) := Lib.hid (by rw [hZ]; kernel_rfl)
  have HZO : Hid (Z.all (·.oneCell') = true) := Lib.hid (by rw [hZ]; exact by simp [dlZ, pfZ, msZ, dlA, pfA, msA, byV, zero32, Value.oneCell'])
  rw [← hZ]
  obtain ⟨w0, hw0⟩ : ∃ w0, w0 = (w.alloc (.cells Z 34)).alloc (.cells Z 34) := ⟨_, rfl⟩
  have hb0 : Below w.heap.size w w0 := by rw [hw0]; exact ((Below.refl _ _).alloc (Nat.le_refl _) _).alloc (by simp) _
  have HX0 : Hid (w0.heap[w.heap.size]? = some (.cells Z 34 (0, 0))) := Lib.hid (by rw [hw0]; exact heap_at (heap_new _ _) _)
  have lX0 := lt_row HX0.out
  have HBL0 := Lib.hid hb0
  have HW0 := Lib.hid hw0
  have HY0 : Hid (w0.heap[w.heap.size + 1]? = some (.cells Z 34 (0, 0))) := Lib.hid (by rw [hw0]; exact heap_new' _ (by simp))
  have lY0 := lt_row HY0.out
  clear hw0 hb0 hZ
  have hP32 : P.size = 32 := by rw [hP, size_bsOf]; exact h3
  have hz1 : z < 1 := by omega
  clear ha h3 hz hlow hP hC bP bC
  go_enter Tryz.func16, Tryz.ntmps16
  go_wp2_with fail
  rw [HLIT.out, ← HW0.out]
  refine (HALL.out w0).mono ?_
  rintro e w1 ⟨v, rfl, hl, hb⟩
  obtain ⟨B, cap, rfl, hB, hc⟩ := list_n 2 hl rfl (by omega)
  clear hl
  have hc0_1 : w1.cell? ⟨B, 0, none⟩ = some (.string P) := by rw [HP.out]; exact hc 0 _ rfl
  have hc1_1 : w1.cell? ⟨B, 1, none⟩ = some (.string C) := by rw [HC.out]; exact hc 1 _ rfl
  have hBX : ¬ w.heap.size = B := by omega
  clear hc hB
  have HX1 := Lib.hid ((hb.block _ lX0).trans HX0.out)
  have lX1 := lt_row HX1.out
  have HY1 := Lib.hid ((hb.block _ lY0).trans HY0.out)
  have lY1 := lt_row HY1.out
  have HBL1 := Lib.hid (HBL0.out.trans (hb.mono HBL0.out.size))
  clear hb 
  clear lX0 lY0
  have hc0x1 := hc0_1
  clear hc0_1
  have hc1x1 := hc1_1
  clear hc1_1
  go_wp2_with fail
  refine (HN.out w1).mono ?_
  rintro e wz ⟨rfl, rfl⟩
  go_wp2_with (first | (refine wpList_load_row rfl _ _ rfl (w.heap.size + 1) rfl _ Z (0, 0) _ HY1.out Tryz.underlying34 rfl HZS.out ?_) | (refine wpList_store_rowA rfl _ _ _ rfl w.heap.size Z rfl rfl _ _ HX1.out HZS.out rfl HZO.out ?_) | fail)
  intro wf hwf
  go_wp2
  refine bodyPost_ret (v := .tuple #[.agg Z, .int .i64 0, .int .i64 6]) (results_cell_slot2 rfl _ _ w.heap.size 34 Z (0, 0) _ rfl (by rw [hwf.out]; exact setRow_at HX1.out) Tryz.underlying34 rfl HZS.out rfl rfl) rfl ⟨rfl, by rw [hwf.out]; exact below_row HBL1.out (Nat.le_refl _) _⟩


set_option maxRecDepth 100000 in
set_option maxHeartbeats 4000000 in
theorem Rejected_yes (w : World) (s : ByteArray) (hs : s.size ≤ 140737488351232) {h c : List UInt8} (ha : all (bl s) = ([h, c], 0)) (h3 : h.length = 32) (hlow : 1 ≤ numI 15 c) :
    Calls Tryz.prog 16 #[.string s] w (RB (rejV (rejected (bl s))) w) := by
  have hA := fun w => OctA.All_ok w s (by unfold maxLen; omega)
  unfold AllPost at hA
  rw [ha] at hA
  have HALL := Lib.hid hA
  clear hA
  obtain ⟨P, hP⟩ : ∃ bb, bb = bsOf h := ⟨_, rfl⟩
  have bP : bl P = h := by rw [hP, bl_bsOf]
  have zP : P.size ≤ 8192 := by rw [hP]; exact parts_len ha _ (by simp)
  have HP := Lib.hid hP
  obtain ⟨C, hC⟩ : ∃ bb, bb = bsOf c := ⟨_, rfl⟩
  have bC : bl C = c := by rw [hC, bl_bsOf]
  have zC : C.size ≤ 8192 := by rw [hC]; exact parts_len ha _ (by simp)
  have HC := Lib.hid hC
  obtain ⟨z, hz⟩ : ∃ z, z = numI 15 c := ⟨_, rfl⟩
  have HN : Hid (∀ w, Calls Tryz.prog 27 #[.string C, .int .u64 15] w fun e w' => e = .returned (.int .i64 z) ∧ w = w') := Lib.hid (by rw [hz, ← bC]; exact fun w => w_number w C (by unfold maxLen; omega) 15 15 rfl (by omega))
  rw [rejected_two ha, if_pos ⟨h3, hlow⟩, ← hz]
  rw [← hz] at hlow
  show Calls _ _ _ w (RB (.tuple #[.agg (byV h).toArray, .int .i64 z.toNat, .int .i64 0]) w)
  rw [show ((z.toNat : Nat) : Int) = z by omega]
  obtain ⟨Z, hZ⟩ : ∃ Z, Z = (byV zero32).toArray := ⟨_, rfl⟩
  have HLIT : Hid ((#[.int .u8 0, .int .u8 0, .int .u8 0, .int .u8 0, .int .u8 0, .int .u8 0, .int .u8 0, .int .u8 0, .int .u8 0, .int .u8 0, .int .u8 0, .int .u8 0, .int .u8 0, .int .u8 0, .int .u8 0, .int .u8 0, .int .u8 0, .int .u8 0, .int .u8 0, .int .u8 0, .int .u8 0, .int .u8 0, .int .u8 0, .int .u8 0, .int .u8 0, .int .u8 0, .int .u8 0, .int .u8 0, .int .u8 0, .int .u8 0, .int .u8 0, .int .u8 0] : Array Value) = Z) := Lib.hid (by rw [hZ]; kernel_rfl)
  have HZN : Hid (Z.size = 32) := Lib.hid (by rw [hZ]; kernel_rfl)
  have HZS : Hid ((Tryz.prog.info? 34).map (·.size) = some Z.size) := Lib.hid (by rw [hZ]; kernel_rfl)
  have HZO : Hid (Z.all (·.oneCell') = true) := Lib.hid (by rw [hZ]; exact by simp [dlZ, pfZ, msZ, dlA, pfA, msA, byV, zero32, Value.oneCell'])
  obtain ⟨w0, hw0⟩ : ∃ w0, w0 = (w.alloc (.cells Z 34)).alloc (.cells Z 34) := ⟨_, rfl⟩
  have hb0 : Below w.heap.size w w0 := by rw [hw0]; exact ((Below.refl _ _).alloc (Nat.le_refl _) _).alloc (by simp) _
  have HX0 : Hid (w0.heap[w.heap.size]? = some (.cells Z 34 (0, 0))) := Lib.hid (by rw [hw0]; exact heap_at (heap_new _ _) _)
  have lX0 := lt_row HX0.out
  have HBL0 := Lib.hid hb0
  have HW0 := Lib.hid hw0
  have HY0 : Hid (w0.heap[w.heap.size + 1]? = some (.cells Z 34 (0, 0))) := Lib.hid (by rw [hw0]; exact heap_new' _ (by simp))
  have lY0 := lt_row HY0.out
  clear hw0 hb0 hZ
  obtain ⟨E1, hE1⟩ : ∃ E, E = (byV h).toArray := ⟨_, rfl⟩
  have hE1n : E1.size = 32 := by rw [hE1]; simp [byV_length, h3]
  have HE1S : Hid ((Tryz.prog.info? 34).map (·.size) = some E1.size) := Lib.hid (by rw [hE1n, ← HZN.out]; exact HZS.out)
  have HE1Z : Hid (Z.size = E1.size) := Lib.hid (by rw [hE1n, HZN.out])
  have HE1N : Hid (32 = E1.size) := Lib.hid hE1n.symm
  have HE1O : Hid (E1.all (·.oneCell') = true) := Lib.hid (by rw [hE1]; simp [byV, Value.oneCell'])
  have HE1 := Lib.hid hE1
  clear hE1n
  have hcopy : (Z.toList.take 0 ++ byV ((bl P).take 32) ++ Z.toList.drop (0 + 32)).toArray = E1 := by
    have e1 : Z.toList.drop (0 + 32) = [] := List.drop_of_length_le (by rw [Array.length_toList, HZN.out]; omega)
    have e2 : (bl P).take 32 = h := by rw [bP]; exact List.take_of_length_le (by omega)
    rw [e1, e2, List.take_zero, hE1]
    simp
  have Hcopy := Lib.hid hcopy
  clear hcopy
  rw [← hE1]
  have hP32 : P.size = 32 := by rw [hP, size_bsOf]; exact h3
  clear ha h3 hz hP hC bP bC hE1
  go_enter Tryz.func16, Tryz.ntmps16
  go_wp2_with fail
  rw [HLIT.out, ← HW0.out]
  refine (HALL.out w0).mono ?_
  rintro e w1 ⟨v, rfl, hl, hb⟩
  obtain ⟨B, cap, rfl, hB, hc⟩ := list_n 2 hl rfl (by omega)
  clear hl
  have hc0_1 : w1.cell? ⟨B, 0, none⟩ = some (.string P) := by rw [HP.out]; exact hc 0 _ rfl
  have hc1_1 : w1.cell? ⟨B, 1, none⟩ = some (.string C) := by rw [HC.out]; exact hc 1 _ rfl
  have hBX : ¬ w.heap.size = B := by omega
  clear hc hB
  have HX1 := Lib.hid ((hb.block _ lX0).trans HX0.out)
  have lX1 := lt_row HX1.out
  have HY1 := Lib.hid ((hb.block _ lY0).trans HY0.out)
  have lY1 := lt_row HY1.out
  have HBL1 := Lib.hid (HBL0.out.trans (hb.mono HBL0.out.size))
  clear hb 
  clear lX0 lY0
  have hc0x1 := hc0_1
  clear hc0_1
  have hc1x1 := hc1_1
  clear hc1_1
  go_wp2_with fail
  refine (HN.out w1).mono ?_
  rintro e wz ⟨rfl, rfl⟩
  go_wp2_with fail
  refine wp_region_noPanic ?_
  refine Wr.region_K (S := (fun W => W.cell? ⟨B, 0, none⟩ = some (.string P))) (K := [4]) (by kernel_rfl) ?_
  change Wr.wpAnyK _ _ _ _ _ _ _ _ _ (World.drew w1)
  have hBL0 : Below w1.heap.size w1 (World.drew w1) := Bl.drew (Below.refl _ _)
  have hS0 : (World.drew w1).cell? ⟨B, 0, none⟩ = some (.string P) := below_cell hBL0 hc0x1
  refine Wr.wpAnyK_takeP (i := 0) (v := ?_) rfl (by kernel_rfl) (fun _ _ _ h => h) (Or.inl ⟨by rfl, ?_⟩) hS0 ?_
  rotate_left
  · intro wq _
    go_simp
    rfl
  simp only [Act.put, sx1, sx2, sx3, sx4, sx5, sx6]
  refine Wr.wpAnyK_takeP (i := 1) (v := ?_) rfl (by kernel_rfl) (fun _ _ _ h => h) (Or.inl ⟨by rfl, ?_⟩) hS0 ?_
  rotate_left
  · intro wq _
    go_simp
    rfl
  simp only [Act.put, sx1, sx2, sx3, sx4, sx5, sx6]
  refine Wr.wpAnyK_takeP (i := 2) (v := ?_) rfl (by kernel_rfl) (fun _ _ _ h => h) (Or.inl ⟨by rfl, ?_⟩) hS0 ?_
  rotate_left
  · intro wq _
    go_simp
    rfl
  simp only [Act.put, sx1, sx2, sx3, sx4, sx5, sx6]
  refine Wr.wpAnyK_take (i := 3) (v := ?_) rfl (by kernel_rfl) (fun _ _ _ h => h) (Or.inl ⟨by rfl, ?_⟩) hS0 ?_
  rotate_left
  · intro wq hSw
    have q0 := hSw
    go_simp
    rfl
  simp only [Act.put, sx1, sx2, sx3, sx4, sx5, sx6]
  refine Wr.wpAnyK_write (i := 4) (by kernel_rfl) (by kernel_rfl) ?_
  refine WrC.wpOp_copy_str rfl (by rfl) (.tmp 36) (.tmp 39) _ _ rfl _ Tryz.underlying57 (by kernel_rfl) (w.heap.size + 1) 0 32 32 P rfl rfl _ _ HY1.out 32 (by rw [hP32]; rfl) (by rw [HZN.out]; omega) ?_
  intro w2 hw_w2
  simp only [Act.put, sx1, sx2, sx3, sx4, sx5, sx6]
  have hbl2 : Below w.heap.size w w2 := by rw [hw_w2.out]; exact below_row (Bl.drew HBL1.out) (by omega) _
  have hy2 : w2.heap[w.heap.size + 1]? = some (.cells E1 34 (0, 0)) := by rw [hw_w2.out, Hcopy.out]; exact setRow_at HY1.out
  have hx2 : w2.heap[w.heap.size]? = some (.cells Z 34 (0, 0)) := by rw [hw_w2.out, setRow_far _ (by omega)]; exact HX1.out
  refine Wr.wpAnyK_done (by kernel_rfl) (NoPanic.normal ?_) _
  have HX2 := Lib.hid hx2
  have HY2 := Lib.hid hy2
  have HBL2 := Lib.hid hbl2
  go_wp2_with (first | (refine wpList_load_row rfl _ _ rfl (w.heap.size + 1) rfl _ E1 (0, 0) _ HY2.out Tryz.underlying34 rfl HE1S.out ?_) | (refine wpList_store_rowA rfl _ _ _ rfl w.heap.size E1 rfl rfl _ _ HX2.out HE1S.out HE1Z.out HE1O.out ?_) | fail)
  intro wf hwf
  go_wp2
  refine bodyPost_ret (v := .tuple #[.agg E1, .int .i64 z, .int .i64 0]) (results_cell_slot2 rfl _ _ w.heap.size 34 E1 (0, 0) _ rfl (by rw [hwf.out]; exact setRow_at HX2.out) Tryz.underlying34 rfl HE1S.out rfl rfl) rfl ⟨rfl, by rw [hwf.out]; exact below_row HBL2.out (Nat.le_refl _) _⟩


theorem Rejected_ok (w : World) (s : ByteArray) (hs : s.size ≤ 140737488351232) :
    Calls Tryz.prog 16 #[.string s] w (RB (rejV (rejected (bl s))) w) := by
  obtain ⟨l, y, ha⟩ : ∃ l y, all (bl s) = (l, y) := ⟨_, _, rfl⟩
  by_cases h0 : y = 0
  · subst h0
    by_cases h2 : l.length = 2
    · match l, h2, ha with
      | [h, c], _, ha =>
        by_cases h3 : h.length = 32
        · by_cases h4 : 1 ≤ numI 15 c
          · exact Rejected_yes w s hs ha h3 h4
          · exact Rejected_low w s hs ha h3 (by omega)
        · exact Rejected_len w s hs ha h3
    · exact Rejected_bad w s hs ha (.inr ⟨rfl, h2⟩)
  · exact Rejected_bad w s hs ha (.inl h0)

end Go.Proofs.YtlincoeldehkfaaGreatDoor.WireH
