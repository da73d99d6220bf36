/-
  WHAT IS PROVED: the reference's head of bytes, or none. Condition: what each theorem names.
-/
import Derived.Test.YtdmonfimdinkeaaGreatDoorLivesE
import Derived.Test.YtdmonfimdinkeaaGreatDoorEvR
import Derived.Test.YtdmonfimdinkeaaGreatDoorRef1B
import Derived.Test.YtdmonfimdinkeaaGreatDoorWireE
import Derived.Test.YtdmonfimdinkeaaGreatDoorWireC
namespace Go.Proofs.YtdmonfimdinkeaaGreatDoor.WireF
open Go Go.RowKit Go.Shelf Go.Proofs.YtdmonfimdinkeaaGreatDoor Go.Proofs.YtdmonfimdinkeaaGreatDoor.OctetS Go.Proofs.YtdmonfimdinkeaaGreatDoor.IdentS Go.Proofs.YtdmonfimdinkeaaGreatDoor.EntS Go.Proofs.YtdmonfimdinkeaaGreatDoor.WireS Go.Proofs.YtdmonfimdinkeaaGreatDoor.OctG Go.Proofs.YtdmonfimdinkeaaGreatDoor.OctP Go.Proofs.YtdmonfimdinkeaaGreatDoor.OctQ Go.Proofs.YtdmonfimdinkeaaGreatDoor.OctA Go.Proofs.YtdmonfimdinkeaaGreatDoor.EventP Go.Proofs.YtdmonfimdinkeaaGreatDoor.EventC Go.Proofs.YtdmonfimdinkeaaGreatDoor.EntP Go.Proofs.YtdmonfimdinkeaaGreatDoor.WireT Go.Proofs.YtdmonfimdinkeaaGreatDoor.Steps Go.Proofs.YtdmonfimdinkeaaGreatDoor.Wr
open Go.Proofs.YtdmonfimdinkeaaGreatDoor.WireE (gnI gnI_eq gnI_small)
open Go.Proofs.YtdmonfimdinkeaaGreatDoor.WireC (chkH_eq)
set_option linter.unusedVariables false
set_option linter.unusedSimpArgs false

set_option maxRecDepth 100000 in
set_option maxHeartbeats 4000000 in
theorem r_Check (w : World) (p : Array Value) (r : ByteArray) (ep ix : Int) (pv : List UInt8) (s : ByteArray) (hp : HdP p r ep ix pv s) (hr : r.size ≤ 140737488351232) (hs : s.size ≤ maxLen) :
    Calls Tryz.prog 19 #[.agg p] w (RB (.int .i64 (whyOf (checkH (hdOf r ep ix pv s)))) w) := by
  unfold maxLen at hs
  rw [chkH_eq]
  obtain ⟨rn, hR⟩ := EvRC.room_at r hr
  obtain ⟨rb, hrb⟩ : ∃ x, x = roomB (bl r) := ⟨_, rfl⟩
  rw [← hrb] at hR ⊢
  clear hrb
  obtain ⟨y, hy⟩ : ∃ y, y = whyOf (rb && (placeB ep && (placeB ix && decide (s.size ≤ 8192)))) := ⟨_, rfl⟩
  rw [← hy]
  have Hy0 := Lib.hid hy
  clear hy
  have p0 := hp.c0
  have p1 := hp.c1
  have p2 := hp.c2
  have p35 := hp.c35
  obtain ⟨w0, hw0⟩ : ∃ w0, w0 = w.alloc (.cells p 25) := ⟨_, rfl⟩
  have hb0 : Below w.heap.size w w0 := by rw [hw0]; exact ((Below.refl _ w).alloc (Nat.le_refl _) _)
  have hx0 : w0.heap[w.heap.size]? = some (.cells p 25 (0, 0)) := by rw [hw0]; exact heap_new _ _
  have HBL0 := Lib.hid hb0
  have HW0 := Lib.hid hw0
  have lx0 := lt_row hx0
  obtain ⟨cx0, fx0⟩ := row_facts hx0
  have HR := Lib.hid hR
  clear hR hb0 hw0 hr hp
  have hcase : rb = false ∨ rb = true := by cases rb <;> simp
  rcases hcase with rfl | rfl
  all_goals
    go_enter Tryz.func19, Tryz.ntmps19
    go_wp2_with fail
    rw [← HW0.out]
    refine (HR.out w0).mono ?_
    rintro e w1 ⟨rfl, hb⟩
    have HBL1 := Lib.hid (HBL0.out.trans (hb.mono HBL0.out.size))
    have hx1 := (hb.block _ lx0).trans hx0
    have lx1 := lt_row hx1
    obtain ⟨cx1, fx1⟩ := row_facts hx1
    clear hb hx0 cx0 fx0
  · go_wp2
    go_ret
    exact ⟨by rw [Hy0.out]; rfl, HBL1.out⟩
  · have hy' : (0 ≤ ep ∧ ep ≤ 4096 ∧ 0 ≤ ix ∧ ix ≤ 4096 ∧ s.size ≤ 8192 ∧ y = 0) ∨ (¬ (0 ≤ ep ∧ ep ≤ 4096 ∧ 0 ≤ ix ∧ ix ≤ 4096 ∧ s.size ≤ 8192) ∧ y = 2) := by
      rw [Hy0.out]
      unfold whyOf placeB
      simp only [Bool.true_and, Bool.and_eq_true, decide_eq_true_eq]
      by_cases h : 0 ≤ ep ∧ ep ≤ 4096 ∧ 0 ≤ ix ∧ ix ≤ 4096 ∧ s.size ≤ 8192
      · rw [if_pos ⟨⟨h.1, h.2.1⟩, ⟨h.2.2.1, h.2.2.2.1⟩, h.2.2.2.2⟩]
        exact .inl ⟨h.1, h.2.1, h.2.2.1, h.2.2.2.1, h.2.2.2.2, rfl⟩
      · rw [if_neg (fun h' => h ⟨h'.1.1, h'.1.2, h'.2.1.1, h'.2.1.2, h'.2.2⟩)]
        exact .inr ⟨h, rfl⟩
    have Hy := Lib.hid hy'
    clear hy'
    go_wp2
    all_goals
      go_ret
      refine ⟨?_, HBL1.out⟩
      have hy := Hy.out
      first
        | (obtain rfl : y = 0 := by omega
           rfl)
        | (obtain rfl : y = 2 := by omega
           rfl)

theorem r_small (w : World) (s : ByteArray) (hs : s.size ≤ maxLen) : Calls Tryz.prog 47 #[.string s] w (RB (.tuple #[.int .i64 (gnI (bl s)), .bool (small 4096 (bl s)).isSome]) w) := by
  obtain ⟨n, u, y, hg⟩ : ∃ n u y, getNum (bl s) = (n, u, y) := ⟨_, _, _, rfl⟩
  have hG := Ref1K.GetNum_at w s hs hg
  have hnm := getNum_le hg
  obtain ⟨b, hb⟩ : ∃ b, b = (small 4096 (bl s)).isSome := ⟨_, rfl⟩
  rw [← hb, gnI_eq hg]
  have hcase : ((y == 0) = false ∧ b = false) ∨ (y = 0 ∧ ((u : Int) == (s.size : Int)) = false ∧ b = false) ∨ (y = 0 ∧ u = s.size ∧ decide ((n : Int) ≤ 4096) = false ∧ b = false) ∨ (y = 0 ∧ u = s.size ∧ decide ((n : Int) ≤ 4096) = true ∧ b = true) := by
    rw [hb]
    rcases small_cases 4096 hg with ⟨h, h'⟩ | ⟨h, h1, h'⟩ | ⟨h, h1, h2, h3, h'⟩ | ⟨h, h1, h2, h3, h'⟩
    · exact .inl ⟨by simpa using h, by rw [h']; rfl⟩
    · exact .inr (.inl ⟨h, by rw [bl_length] at h1; simp; omega, by rw [h']; rfl⟩)
    · exact .inr (.inr (.inl ⟨h, by rw [← bl_length]; exact h1, by simp; omega, by rw [h']; rfl⟩))
    · exact .inr (.inr (.inr ⟨h, by rw [← bl_length]; exact h1, by simp; omega, by rw [h']; rfl⟩))
  have HG := Lib.hid hG
  clear hG hg hb
  unfold maxNum at hnm
  unfold maxLen at hs
  rcases hcase with ⟨hy, rfl⟩ | ⟨rfl, hy, rfl⟩ | ⟨rfl, rfl, hy, rfl⟩ | ⟨rfl, rfl, hy, rfl⟩
  all_goals
    go_enter Tryz.func47, Tryz.ntmps47
    go_wp2_with fail
    refine HG.out.mono ?_
    rintro e w1 ⟨rfl, hb⟩
    have Hb := Lib.hid hb
    clear hb
    go_wp2
    go_ret2
    exact ⟨rfl, Hb.out⟩

set_option maxRecDepth 100000 in
set_option maxHeartbeats 4000000 in
theorem Read_bad (w : World) (s : ByteArray) (hs : s.size ≤ 140737488351232) {l : List (List UInt8)} {y : Int} (ha : all (bl s) = (l, y)) (hbad : y ≠ 0 ∨ (y = 0 ∧ l.length ≠ 5)) :
    Calls Tryz.prog 15 #[.string s] w (RB (hdV (readH (bl s))) w) := by
  have hA := fun w => Ref1A.All_ok w s (by unfold maxLen; omega)
  unfold AllPost at hA
  rw [ha] at hA
  have HALL := Lib.hid hA
  clear hA
  rw [readH_bad ha (by omega)]
  show Calls _ _ _ w (RB (.tuple #[.agg hdZ, .int .i64 6]) w)
  obtain ⟨Z, hZ⟩ : ∃ Z, Z = hdZ := ⟨_, rfl⟩
  have HLIT : Hid ((#[.string ⟨#[]⟩, .int .i64 0, .int .i64 0, .int .u8 0, .int .u8 0, .int .u8 0, .int .u8 0, .int .u8 0, .int .u8 0, .int .u8 0, .int .u8 0, .int .u8 0, .int .u8 0, .int .u8 0, .int .u8 0, .int .u8 0, .int .u8 0, .int .u8 0, .int .u8 0, .int .u8 0, .int .u8 0, .int .u8 0, .int .u8 0, .int .u8 0, .int .u8 0, .int .u8 0, .int .u8 0, .int .u8 0, .int .u8 0, .int .u8 0, .int .u8 0, .int .u8 0, .int .u8 0, .int .u8 0, .int .u8 0, .string ⟨#[]⟩] : Array Value) = Z) := Lib.hid (by rw [hZ]; kernel_rfl)
  have HZN : Hid (Z.size = 36) := Lib.hid (by rw [hZ]; kernel_rfl)
  have HZS : Hid ((Tryz.prog.info? 25).map (·.size) = some Z.size) := Lib.hid (by rw [hZ]; kernel_rfl)
  have HZO : Hid (Z.all (·.oneCell') = true) := Lib.hid (by rw [hZ]; exact hdA_one _ _ _ _ _)
  rw [← hZ]
  obtain ⟨w0, hw0⟩ : ∃ w0, w0 = w.alloc (.cells Z 25) := ⟨_, rfl⟩
  have hb0 : Below w.heap.size w w0 := by rw [hw0]; exact (Below.refl _ _).alloc (Nat.le_refl _) _
  have HX0 : Hid (w0.heap[w.heap.size]? = some (.cells Z 25 (0, 0))) := Lib.hid (by rw [hw0]; exact heap_new _ _)
  have lX0 := lt_row HX0.out
  have HBL0 := Lib.hid hb0
  have HW0 := Lib.hid hw0
  clear hw0 hb0 hZ
  have hcase : (y != 0) = true ∨ (y = 0 ∧ ((l.length : Int) != 5) = true) := by
    rcases hbad with h | ⟨h0, h⟩
    · exact .inl (by simpa using h)
    · exact .inr ⟨h0, by simp; omega⟩
  clear hbad ha
  rcases hcase with hy | ⟨rfl, hy⟩
  all_goals
    go_enter Tryz.func15, Tryz.ntmps15
    go_wp2_with fail
    rw [HLIT.out, ← HW0.out]
    refine (HALL.out w0).mono ?_
    rintro e w1 ⟨v, rfl, hl, hb⟩
    obtain ⟨av, cap, rfl, _, _⟩ := (Sl.ofOwn hl).form
    clear hl
    have HX1 := Lib.hid ((hb.block _ lX0).trans HX0.out)
    have lX1 := lt_row HX1.out
    have HBL1 := Lib.hid (HBL0.out.trans (hb.mono HBL0.out.size))
    clear hb 
    clear lX0
    go_wp2_with (first | (refine wpList_store_rowA rfl _ _ _ rfl w.heap.size Z rfl (by rw [← HLIT.out]; rfl) _ _ HX1.out HZS.out rfl HZO.out ?_) | fail)
    intro wf hwf
    go_wp2
    refine bodyPost_ret (v := .tuple #[.agg Z, .int .i64 6]) (results_cell_slot rfl _ _ w.heap.size 25 Z (0, 0) _ rfl (by rw [hwf.out]; exact setRow_at HX1.out) Tryz.underlying25 rfl HZS.out rfl) rfl ⟨rfl, by rw [hwf.out]; exact below_row HBL1.out (Nat.le_refl _) _⟩

set_option maxRecDepth 100000 in
set_option maxHeartbeats 4000000 in
theorem Read_mark (w : World) (s : ByteArray) (hs : s.size ≤ 140737488351232) {k r a b p : List UInt8} (ha : all (bl s) = ([k, r, a, b, p], 0)) (hm : k ≠ markH) :
    Calls Tryz.prog 15 #[.string s] w (RB (hdV (readH (bl s))) w) := by
  have hA := fun w => Ref1A.All_ok w s (by unfold maxLen; omega)
  unfold AllPost at hA
  rw [ha] at hA
  have HALL := Lib.hid hA
  clear hA
  rw [readH_mark ha hm]
  show Calls _ _ _ w (RB (.tuple #[.agg hdZ, .int .i64 6]) w)
  obtain ⟨K, hK⟩ : ∃ x, x = bsOf k := ⟨_, rfl⟩
  have bK : bl K = k := by rw [hK, bl_bsOf]
  have zK : K.size ≤ 8192 := by rw [hK]; exact parts_len ha _ (by simp)
  have HK := Lib.hid hK
  have hkk : (K.toList == [104, 101, 97, 100]) = false := by
    have h : (K.toList == (ByteArray.mk #[104, 101, 97, 100]).toList) = false := str_ne (fun h => hm (by rw [← bK, h]; rfl))
    rw [bl_toList (ByteArray.mk #[104, 101, 97, 100])] at h
    exact h
  obtain ⟨Z, hZ⟩ : ∃ Z, Z = hdZ := ⟨_, rfl⟩
  have HLIT : Hid ((#[.string ⟨#[]⟩, .int .i64 0, .int .i64 0, .int .u8 0, .int .u8 0, .int .u8 0, .int .u8 0, .int .u8 0, .int .u8 0, .int .u8 0, .int .u8 0, .int .u8 0, .int .u8 0, .int .u8 0, .int .u8 0, .int .u8 0, .int .u8 0, .int .u8 0, .int .u8 0, .int .u8 0, .int .u8 0, .int .u8 0, .int .u8 0, .int .u8 0, .int .u8 0, .int .u8 0, .int .u8 0, .int .u8 0, .int .u8 0, .int .u8 0, .int .u8 0, .int .u8 0, .int .u8 0, .int .u8 0, .int .u8 0, .string ⟨#[]⟩] : Array Value) = Z) := Lib.hid (by rw [hZ]; kernel_rfl)
  have HZN : Hid (Z.size = 36) := Lib.hid (by rw [hZ]; kernel_rfl)
  have HZS : Hid ((Tryz.prog.info? 25).map (·.size) = some Z.size) := Lib.hid (by rw [hZ]; kernel_rfl)
  have HZO : Hid (Z.all (·.oneCell') = true) := Lib.hid (by rw [hZ]; exact hdA_one _ _ _ _ _)
  rw [← hZ]
  obtain ⟨w0, hw0⟩ : ∃ w0, w0 = w.alloc (.cells Z 25) := ⟨_, rfl⟩
  have hb0 : Below w.heap.size w w0 := by rw [hw0]; exact (Below.refl _ _).alloc (Nat.le_refl _) _
  have HX0 : Hid (w0.heap[w.heap.size]? = some (.cells Z 25 (0, 0))) := Lib.hid (by rw [hw0]; exact heap_new _ _)
  have lX0 := lt_row HX0.out
  have HBL0 := Lib.hid hb0
  have HW0 := Lib.hid hw0
  clear hw0 hb0 hZ
  clear hm ha hK bK
  go_enter Tryz.func15, Tryz.ntmps15
  go_wp2_with fail
  rw [HLIT.out, ← HW0.out]
  refine (HALL.out w0).mono ?_
  rintro e w1 ⟨v, rfl, hl, hb⟩
  obtain ⟨B, cap, rfl, hB, hc⟩ := list_n 5 hl rfl (by omega)
  clear hl
  have hc0_1 : w1.cell? ⟨B, 0, none⟩ = some (.string K) := by rw [HK.out]; exact hc 0 _ rfl
  have hBX : ¬ w.heap.size = B := by omega
  clear hc hB
  have HX1 := Lib.hid ((hb.block _ lX0).trans HX0.out)
  have lX1 := lt_row HX1.out
  have HBL1 := Lib.hid (HBL0.out.trans (hb.mono HBL0.out.size))
  clear hb 
  clear lX0
  have hc0x1 := hc0_1
  clear hc0_1
  go_wp2_with (first | (refine wpList_store_rowA rfl _ _ _ rfl w.heap.size Z rfl (by rw [← HLIT.out]; rfl) _ _ HX1.out HZS.out rfl HZO.out ?_) | fail)
  intro wf hwf
  go_wp2
  refine bodyPost_ret (v := .tuple #[.agg Z, .int .i64 6]) (results_cell_slot rfl _ _ w.heap.size 25 Z (0, 0) _ rfl (by rw [hwf.out]; exact setRow_at HX1.out) Tryz.underlying25 rfl HZS.out rfl) rfl ⟨rfl, by rw [hwf.out]; exact below_row HBL1.out (Nat.le_refl _) _⟩

set_option maxRecDepth 100000 in
set_option maxHeartbeats 4000000 in
theorem Read_len (w : World) (s : ByteArray) (hs : s.size ≤ 140737488351232) {r a b p : List UInt8} (ha : all (bl s) = ([markH, r, a, b, p], 0)) (h3 : p.length ≠ 32) :
    Calls Tryz.prog 15 #[.string s] w (RB (hdV (readH (bl s))) w) := by
  have hA := fun w => Ref1A.All_ok w s (by unfold maxLen; omega)
  unfold AllPost at hA
  rw [ha] at hA
  have HALL := Lib.hid hA
  clear hA
  rw [readH_no ha (.inl h3)]
  show Calls _ _ _ w (RB (.tuple #[.agg hdZ, .int .i64 6]) w)
  obtain ⟨K, hK⟩ : ∃ x, x = bsOf markH := ⟨_, rfl⟩
  have bK : bl K = markH := by rw [hK, bl_bsOf]
  have zK : K.size ≤ 8192 := by rw [hK]; exact parts_len ha _ (by simp)
  have HK := Lib.hid hK
  obtain ⟨P, hP⟩ : ∃ x, x = bsOf p := ⟨_, rfl⟩
  have bP : bl P = p := by rw [hP, bl_bsOf]
  have zP : P.size ≤ 8192 := by rw [hP]; exact parts_len ha _ (by simp)
  have HP := Lib.hid hP
  have hkk : (K.toList == [104, 101, 97, 100]) = true := by rw [hK, bl_toList, bl_bsOf]; rfl
  have hPn : ((P.size : Int) == 32) = false := by rw [hP, size_bsOf]; simp; omega
  have hPm : ((P.size : Int) != 32) = true := by rw [bne, hPn]; rfl
  obtain ⟨Z, hZ⟩ : ∃ Z, Z = hdZ := ⟨_, rfl⟩
  have HLIT : Hid ((#[.string ⟨#[]⟩, .int .i64 0, .int .i64 0, .int .u8 0, .int .u8 0, .int .u8 0, .int .u8 0, .int .u8 0, .int .u8 0, .int .u8 0, .int .u8 0, .int .u8 0, .int .u8 0, .int .u8 0, .int .u8 0, .int .u8 0, .int .u8 0, .int .u8 0, .int .u8 0, .int .u8 0, .int .u8 0, .int .u8 0, .int .u8 0, .int .u8 0, .int .u8 0, .int .u8 0, .int .u8 0, .int .u8 0, .int .u8 0, .int .u8 0, .int .u8 0, .int .u8 0, .int .u8 0, .int .u8 0, .int .u8 0, .string ⟨#[]⟩] : Array Value) = Z) := Lib.hid (by rw [hZ]; kernel_rfl)
  have HZN : Hid (Z.size = 36) := Lib.hid (by rw [hZ]; kernel_rfl)
  have HZS : Hid ((Tryz.prog.info? 25).map (·.size) = some Z.size) := Lib.hid (by rw [hZ]; kernel_rfl)
  have HZO : Hid (Z.all (·.oneCell') = true) := Lib.hid (by rw [hZ]; exact hdA_one _ _ _ _ _)
  rw [← hZ]
  obtain ⟨w0, hw0⟩ : ∃ w0, w0 = w.alloc (.cells Z 25) := ⟨_, rfl⟩
  have hb0 : Below w.heap.size w w0 := by rw [hw0]; exact (Below.refl _ _).alloc (Nat.le_refl _) _
  have HX0 : Hid (w0.heap[w.heap.size]? = some (.cells Z 25 (0, 0))) := Lib.hid (by rw [hw0]; exact heap_new _ _)
  have lX0 := lt_row HX0.out
  have HBL0 := Lib.hid hb0
  have HW0 := Lib.hid hw0
  clear hw0 hb0 hZ
  clear ha hK bK hP bP h3
  go_enter Tryz.func15, Tryz.ntmps15
  go_wp2_with fail
  rw [HLIT.out, ← HW0.out]
  refine (HALL.out w0).mono ?_
  rintro e w1 ⟨v, rfl, hl, hb⟩
  obtain ⟨B, cap, rfl, hB, hc⟩ := list_n 5 hl rfl (by omega)
  clear hl
  have hc0_1 : w1.cell? ⟨B, 0, none⟩ = some (.string K) := by rw [HK.out]; exact hc 0 _ rfl
  have hc4_1 : w1.cell? ⟨B, 4, none⟩ = some (.string P) := by rw [HP.out]; exact hc 4 _ rfl
  have hBX : ¬ w.heap.size = B := by omega
  clear hc hB
  have HX1 := Lib.hid ((hb.block _ lX0).trans HX0.out)
  have lX1 := lt_row HX1.out
  have HBL1 := Lib.hid (HBL0.out.trans (hb.mono HBL0.out.size))
  clear hb 
  clear lX0
  have hc0x1 := hc0_1
  clear hc0_1
  have hc4x1 := hc4_1
  clear hc4_1
  go_wp2_with (first | (refine wpList_store_rowA rfl _ _ _ rfl w.heap.size Z rfl (by rw [← HLIT.out]; rfl) _ _ HX1.out HZS.out rfl HZO.out ?_) | fail)
  intro wf hwf
  go_wp2
  refine bodyPost_ret (v := .tuple #[.agg Z, .int .i64 6]) (results_cell_slot rfl _ _ w.heap.size 25 Z (0, 0) _ rfl (by rw [hwf.out]; exact setRow_at HX1.out) Tryz.underlying25 rfl HZS.out rfl) rfl ⟨rfl, by rw [hwf.out]; exact below_row HBL1.out (Nat.le_refl _) _⟩

set_option maxRecDepth 100000 in
set_option maxHeartbeats 4000000 in
theorem Read_no (w : World) (s : ByteArray) (hs : s.size ≤ 140737488351232) {r a b p : List UInt8} (ha : all (bl s) = ([markH, r, a, b, p], 0)) (h3 : p.length = 32) (hno : ((small 4096 a).isSome && (small 4096 b).isSome) = false) :
    Calls Tryz.prog 15 #[.string s] w (RB (hdV (readH (bl s))) w) := by
  have hA := fun w => Ref1A.All_ok w s (by unfold maxLen; omega)
  unfold AllPost at hA
  rw [ha] at hA
  have HALL := Lib.hid hA
  clear hA
  obtain ⟨K, hK⟩ : ∃ x, x = bsOf markH := ⟨_, rfl⟩
  have bK : bl K = markH := by rw [hK, bl_bsOf]
  have zK : K.size ≤ 8192 := by rw [hK]; exact parts_len ha _ (by simp)
  have HK := Lib.hid hK
  obtain ⟨R, hR⟩ : ∃ x, x = bsOf r := ⟨_, rfl⟩
  have bR : bl R = r := by rw [hR, bl_bsOf]
  have zR : R.size ≤ 8192 := by rw [hR]; exact parts_len ha _ (by simp)
  have HR := Lib.hid hR
  obtain ⟨A, hA⟩ : ∃ x, x = bsOf a := ⟨_, rfl⟩
  have bA : bl A = a := by rw [hA, bl_bsOf]
  have zA : A.size ≤ 8192 := by rw [hA]; exact parts_len ha _ (by simp)
  have HA := Lib.hid hA
  obtain ⟨D, hD⟩ : ∃ x, x = bsOf b := ⟨_, rfl⟩
  have bD : bl D = b := by rw [hD, bl_bsOf]
  have zD : D.size ≤ 8192 := by rw [hD]; exact parts_len ha _ (by simp)
  have HD := Lib.hid hD
  obtain ⟨P, hP⟩ : ∃ x, x = bsOf p := ⟨_, rfl⟩
  have bP : bl P = p := by rw [hP, bl_bsOf]
  have zP : P.size ≤ 8192 := by rw [hP]; exact parts_len ha _ (by simp)
  have HP := Lib.hid hP
  have hkk : (K.toList == [104, 101, 97, 100]) = true := by rw [hK, bl_toList, bl_bsOf]; rfl
  have zP2 : P.size = p.length := by rw [hP, size_bsOf]
  obtain ⟨o1, ho1⟩ : ∃ o, o = (small 4096 a).isSome := ⟨_, rfl⟩
  obtain ⟨o2, ho2⟩ : ∃ o, o = (small 4096 b).isSome := ⟨_, rfl⟩
  obtain ⟨x, hx⟩ : ∃ x, x = gnI a := ⟨_, rfl⟩
  obtain ⟨y, hy⟩ : ∃ x, x = gnI b := ⟨_, rfl⟩
  have HN1 : Hid (∀ w, Calls Tryz.prog 47 #[.string A] w (RB (.tuple #[.int .i64 x, .bool o1]) w)) := Lib.hid (by rw [hx, ho1, ← bA]; exact fun w => r_small w A (by unfold maxLen; omega))
  have HN2 : Hid (∀ w, Calls Tryz.prog 47 #[.string D] w (RB (.tuple #[.int .i64 y, .bool o2]) w)) := Lib.hid (by rw [hy, ho2, ← bD]; exact fun w => r_small w D (by unfold maxLen; omega))
  have hcase : o1 = false ∨ (o1 = true ∧ o2 = false) := by
    rw [ho1, ho2]
    cases h1 : small 4096 a with
    | none => exact .inl rfl
    | some _ => cases h2 : small 4096 b with
      | none => exact .inr ⟨rfl, rfl⟩
      | some _ => rw [h1, h2] at hno; simp at hno
  have hn : readH (bl s) = none := by
    apply readH_no ha
    cases h1 : small 4096 a with
    | none => exact .inr (.inl rfl)
    | some _ => cases h2 : small 4096 b with
      | none => exact .inr (.inr rfl)
      | some _ => rw [h1, h2] at hno; simp at hno
  rw [hn]
  show Calls _ _ _ w (RB (.tuple #[.agg hdZ, .int .i64 6]) w)
  clear hn hno
  obtain ⟨Z, hZ⟩ : ∃ Z, Z = hdZ := ⟨_, rfl⟩
  have HLIT : Hid ((#[.string ⟨#[]⟩, .int .i64 0, .int .i64 0, .int .u8 0, .int .u8 0, .int .u8 0, .int .u8 0, .int .u8 0, .int .u8 0, .int .u8 0, .int .u8 0, .int .u8 0, .int .u8 0, .int .u8 0, .int .u8 0, .int .u8 0, .int .u8 0, .int .u8 0, .int .u8 0, .int .u8 0, .int .u8 0, .int .u8 0, .int .u8 0, .int .u8 0, .int .u8 0, .int .u8 0, .int .u8 0, .int .u8 0, .int .u8 0, .int .u8 0, .int .u8 0, .int .u8 0, .int .u8 0, .int .u8 0, .int .u8 0, .string ⟨#[]⟩] : Array Value) = Z) := Lib.hid (by rw [hZ]; kernel_rfl)
  have HZN : Hid (Z.size = 36) := Lib.hid (by rw [hZ]; kernel_rfl)
  have HZS : Hid ((Tryz.prog.info? 25).map (·.size) = some Z.size) := Lib.hid (by rw [hZ]; kernel_rfl)
  have HZO : Hid (Z.all (·.oneCell') = true) := Lib.hid (by rw [hZ]; exact hdA_one _ _ _ _ _)
  rw [← hZ]
  obtain ⟨w0, hw0⟩ : ∃ w0, w0 = w.alloc (.cells Z 25) := ⟨_, rfl⟩
  have hb0 : Below w.heap.size w w0 := by rw [hw0]; exact (Below.refl _ _).alloc (Nat.le_refl _) _
  have HX0 : Hid (w0.heap[w.heap.size]? = some (.cells Z 25 (0, 0))) := Lib.hid (by rw [hw0]; exact heap_new _ _)
  have lX0 := lt_row HX0.out
  have HBL0 := Lib.hid hb0
  have HW0 := Lib.hid hw0
  clear hw0 hb0 hZ
  obtain ⟨E0, hE0⟩ : ∃ E, E = hdA R x y zero32 ⟨#[]⟩ := ⟨_, rfl⟩
  have hE0n : E0.size = 36 := by rw [hE0]; exact hdA_size (by first | rfl | assumption)
  have HE0S : Hid ((Tryz.prog.info? 25).map (·.size) = some E0.size) := Lib.hid (by rw [hE0n, ← HZN.out]; exact HZS.out)
  have HE0Z : Hid (Z.size = E0.size) := Lib.hid (by rw [hE0n, HZN.out])
  have HE0N : Hid (36 = E0.size) := Lib.hid hE0n.symm
  have HE0O : Hid (E0.all (·.oneCell') = true) := Lib.hid (by rw [hE0]; exact hdA_one _ _ _ _ _)
  have HE0 := Lib.hid hE0
  clear hE0n
  obtain ⟨E1, hE1⟩ : ∃ E, E = hdA R x y p ⟨#[]⟩ := ⟨_, rfl⟩
  have hE1n : E1.size = 36 := by rw [hE1]; exact hdA_size (by first | rfl | assumption)
  have HE1S : Hid ((Tryz.prog.info? 25).map (·.size) = some E1.size) := Lib.hid (by rw [hE1n, ← HZN.out]; exact HZS.out)
  have HE1Z : Hid (Z.size = E1.size) := Lib.hid (by rw [hE1n, HZN.out])
  have HE1N : Hid (36 = E1.size) := Lib.hid hE1n.symm
  have HE1O : Hid (E1.all (·.oneCell') = true) := Lib.hid (by rw [hE1]; exact hdA_one _ _ _ _ _)
  have HE1 := Lib.hid hE1
  clear hE1n
  have hcopy : (E0.toList.take 3 ++ byV ((bl P).take 32) ++ E0.toList.drop (3 + 32)).toArray = E1 := by
    rw [hE0, hE1, bP]
    exact hd_copy _ _ _ zero32_len h3 _
  have Hcopy := Lib.hid hcopy
  clear hcopy
  have hP32 : P.size = 32 := by omega
  clear ha hx hy hK hR hA hD hP  bK bR bA bD bP  zP2 h3 hE0 hE1 ho1 ho2
  go_enter Tryz.func15, Tryz.ntmps15
  go_wp2_with fail
  rw [HLIT.out, ← HW0.out]
  refine (HALL.out w0).mono ?_
  rintro e w1 ⟨v, rfl, hl, hb⟩
  obtain ⟨B, cap, rfl, hB, hc⟩ := list_n 5 hl rfl (by omega)
  clear hl
  have hc0_1 : w1.cell? ⟨B, 0, none⟩ = some (.string K) := by rw [HK.out]; exact hc 0 _ rfl
  have hc1_1 : w1.cell? ⟨B, 1, none⟩ = some (.string R) := by rw [HR.out]; exact hc 1 _ rfl
  have hc2_1 : w1.cell? ⟨B, 2, none⟩ = some (.string A) := by rw [HA.out]; exact hc 2 _ rfl
  have hc3_1 : w1.cell? ⟨B, 3, none⟩ = some (.string D) := by rw [HD.out]; exact hc 3 _ rfl
  have hc4_1 : w1.cell? ⟨B, 4, none⟩ = some (.string P) := by rw [HP.out]; exact hc 4 _ rfl
  have hBX : ¬ w.heap.size = B := by omega
  clear hc hB
  have HX1 := Lib.hid ((hb.block _ lX0).trans HX0.out)
  have lX1 := lt_row HX1.out
  have HBL1 := Lib.hid (HBL0.out.trans (hb.mono HBL0.out.size))
  clear hb 
  clear lX0
  have hc0x1 := hc0_1
  clear hc0_1
  have hc1x1 := hc1_1
  clear hc1_1
  have hc2x1 := hc2_1
  clear hc2_1
  have hc3x1 := hc3_1
  clear hc3_1
  have hc4x1 := hc4_1
  clear hc4_1
  go_wp2_with fail
  refine (HN1.out w1).mono ?_
  rintro e w2 ⟨rfl, hb⟩
  have HX2 := Lib.hid ((hb.block _ lX1).trans HX1.out)
  have lX2 := lt_row HX2.out
  have HBL2 := Lib.hid (HBL1.out.trans (hb.mono HBL1.out.size))
  have hc0x2 := below_cell hb hc0x1
  have hc1x2 := below_cell hb hc1x1
  have hc2x2 := below_cell hb hc2x1
  have hc3x2 := below_cell hb hc3x1
  have hc4x2 := below_cell hb hc4x1
  clear hb hc0x1 hc1x1 hc2x1 hc3x1 hc4x1
  clear lX1
  go_wp2_with fail
  refine (HN2.out w2).mono ?_
  rintro e w3 ⟨rfl, hb⟩
  have HX3 := Lib.hid ((hb.block _ lX2).trans HX2.out)
  have lX3 := lt_row HX3.out
  have HBL3 := Lib.hid (HBL2.out.trans (hb.mono HBL2.out.size))
  have hc0x3 := below_cell hb hc0x2
  have hc1x3 := below_cell hb hc1x2
  have hc2x3 := below_cell hb hc2x2
  have hc3x3 := below_cell hb hc3x2
  have hc4x3 := below_cell hb hc4x2
  clear hb hc0x2 hc1x2 hc2x2 hc3x2 hc4x2
  clear lX2
  go_wp2_with (first | (refine wpList_store_rowA rfl _ _ _ rfl w3.heap.size E0 rfl (by rw [HE0.out]; first | rfl | kernel_rfl) _ _ (heap_new _ _) HE0S.out HE0N.out HE0O.out ?_) | fail)
  intro u2 hu2
  have hbu : Below w3.heap.size w3 u2 := by rw [hu2.out]; exact below_row ((Below.refl _ _).alloc (Nat.le_refl _) _) (Nat.le_refl _) _
  have hyu : u2.heap[w3.heap.size]? = some (.cells E0 25 (0, 0)) := by rw [hu2.out]; exact setRow_at (heap_new _ _)
  have HBU := Lib.hid hbu
  have HYU := Lib.hid hyu
  have lYU := lt_row HYU.out
  clear hbu hyu hu2
  go_wp2_with fail
  refine wp_region_noPanic ?_
  refine Wr.region_K (S := (fun W => W.cell? ⟨B, 4, none⟩ = some (.string P))) (K := []) (by kernel_rfl) ?_
  change Wr.wpAnyK _ _ _ _ _ _ _ _ _ (World.drew u2)
  have hBL0 : Below w3.heap.size w3 (World.drew u2) := Bl.drew HBU.out
  have hS0 : (World.drew u2).cell? ⟨B, 4, none⟩ = some (.string P) := below_cell hBL0 hc4x3
  refine Wr.wpAnyK_take (i := 0) (v := ?_) rfl (by kernel_rfl) (fun _ _ _ h => h) (Or.inl ⟨by rfl, ?_⟩) hS0 ?_
  rotate_left
  · intro wq hSw
    have q0 := hSw
    go_simp
    rfl
  simp only [Act.put, sx1, sx2, sx3, sx4, sx5, sx6]
  refine Wr.wpAnyK_take (i := 1) (v := ?_) rfl (by kernel_rfl) (fun _ _ _ h => h) (Or.inl ⟨by rfl, ?_⟩) hS0 ?_
  rotate_left
  · intro wq hSw
    have q0 := hSw
    go_simp
    rfl
  simp only [Act.put, sx1, sx2, sx3, sx4, sx5, sx6]
  refine Wr.wpAnyK_take (i := 2) (v := ?_) rfl (by kernel_rfl) (fun _ _ _ h => h) (Or.inl ⟨by rfl, ?_⟩) hS0 ?_
  rotate_left
  · intro wq hSw
    have q0 := hSw
    go_simp
    rfl
  simp only [Act.put, sx1, sx2, sx3, sx4, sx5, sx6]
  refine Wr.wpAnyK_take (i := 3) (v := ?_) rfl (by kernel_rfl) (fun _ _ _ h => h) (Or.inl ⟨by rfl, ?_⟩) hS0 ?_
  rotate_left
  · intro wq hSw
    have q0 := hSw
    go_simp
    rfl
  simp only [Act.put, sx1, sx2, sx3, sx4, sx5, sx6]
  refine Wr.wpAnyK_take (i := 4) (v := ?_) rfl (by kernel_rfl) (fun _ _ _ h => h) (Or.inl ⟨by rfl, ?_⟩) hS0 ?_
  rotate_left
  · intro wq hSw
    have q0 := hSw
    go_simp
    rfl
  simp only [Act.put, sx1, sx2, sx3, sx4, sx5, sx6]
  refine Wr.wpAnyK_one (i := 5) (by kernel_rfl) ?_
  refine WrC.wpOp_copy_str rfl (by rfl) (.tmp 58) (.tmp 61) _ _ rfl _ Tryz.underlying66 (by kernel_rfl) w3.heap.size 3 32 32 P rfl rfl _ _ HYU.out 32 (by rw [hP32]; rfl) (by rw [← HE0N.out]; omega) ?_
  intro w4 hw_w4
  have hBL1 : Below w3.heap.size w3 w4 := by rw [hw_w4.out]; exact below_row hBL0 (Nat.le_refl _) _
  have hS1 : w4.cell? ⟨B, 4, none⟩ = some (.string P) := below_cell hBL1 hc4x3
  refine ⟨hS1, ?_⟩
  simp only [Act.put, sx1, sx2, sx3, sx4, sx5, sx6]
  have hy_w4 : w4.heap[w3.heap.size]? = some (.cells E1 25 (0, 0)) := by rw [hw_w4.out, Hcopy.out]; exact setRow_at HYU.out
  refine Wr.wpAnyK_done (by kernel_rfl) (NoPanic.normal ?_) _
  have HY4 := Lib.hid hy_w4
  have lY4 := lt_row HY4.out
  have HX4 := Lib.hid ((hBL1.block _ lX3).trans HX3.out)
  have lX4 := lt_row HX4.out
  have HBL4 := Lib.hid (HBL3.out.trans (hBL1.mono HBL3.out.size))
  have hc0x4 := below_cell hBL1 hc0x3
  have hc1x4 := below_cell hBL1 hc1x3
  have hc2x4 := below_cell hBL1 hc2x3
  have hc3x4 := below_cell hBL1 hc3x3
  have hc4x4 := below_cell hBL1 hc4x3
  rcases hcase with rfl | ⟨rfl, rfl⟩
  all_goals
    go_wp2_with (first | (refine wpList_store_rowA rfl _ _ _ rfl w.heap.size Z rfl (by rw [← HLIT.out]; rfl) _ _ HX4.out HZS.out rfl HZO.out ?_) | fail)
    intro wf hwf
    go_wp2
    refine bodyPost_ret (v := .tuple #[.agg Z, .int .i64 6]) (results_cell_slot rfl _ _ w.heap.size 25 Z (0, 0) _ rfl (by rw [hwf.out]; exact setRow_at HX4.out) Tryz.underlying25 rfl HZS.out rfl) rfl ⟨rfl, by rw [hwf.out]; exact below_row HBL4.out (Nat.le_refl _) _⟩

set_option maxRecDepth 100000 in
set_option maxHeartbeats 4000000 in
theorem Read_yes (w : World) (s : ByteArray) (hs : s.size ≤ 140737488351232) {r a b p : List UInt8} (ha : all (bl s) = ([markH, r, a, b, p], 0)) (h3 : p.length = 32) (hy1 : (small 4096 a).isSome = true) (hy2 : (small 4096 b).isSome = true) :
    Calls Tryz.prog 15 #[.string s] w (RB (hdV (readH (bl s))) w) := by
  have hA := fun w => Ref1A.All_ok w s (by unfold maxLen; omega)
  unfold AllPost at hA
  rw [ha] at hA
  have HALL := Lib.hid hA
  clear hA
  obtain ⟨K, hK⟩ : ∃ x, x = bsOf markH := ⟨_, rfl⟩
  have bK : bl K = markH := by rw [hK, bl_bsOf]
  have zK : K.size ≤ 8192 := by rw [hK]; exact parts_len ha _ (by simp)
  have HK := Lib.hid hK
  obtain ⟨R, hR⟩ : ∃ x, x = bsOf r := ⟨_, rfl⟩
  have bR : bl R = r := by rw [hR, bl_bsOf]
  have zR : R.size ≤ 8192 := by rw [hR]; exact parts_len ha _ (by simp)
  have HR := Lib.hid hR
  obtain ⟨A, hA⟩ : ∃ x, x = bsOf a := ⟨_, rfl⟩
  have bA : bl A = a := by rw [hA, bl_bsOf]
  have zA : A.size ≤ 8192 := by rw [hA]; exact parts_len ha _ (by simp)
  have HA := Lib.hid hA
  obtain ⟨D, hD⟩ : ∃ x, x = bsOf b := ⟨_, rfl⟩
  have bD : bl D = b := by rw [hD, bl_bsOf]
  have zD : D.size ≤ 8192 := by rw [hD]; exact parts_len ha _ (by simp)
  have HD := Lib.hid hD
  obtain ⟨P, hP⟩ : ∃ x, x = bsOf p := ⟨_, rfl⟩
  have bP : bl P = p := by rw [hP, bl_bsOf]
  have zP : P.size ≤ 8192 := by rw [hP]; exact parts_len ha _ (by simp)
  have HP := Lib.hid hP
  have hkk : (K.toList == [104, 101, 97, 100]) = true := by rw [hK, bl_toList, bl_bsOf]; rfl
  have zP2 : P.size = p.length := by rw [hP, size_bsOf]
  obtain ⟨o1, ho1⟩ : ∃ o, o = (small 4096 a).isSome := ⟨_, rfl⟩
  obtain ⟨o2, ho2⟩ : ∃ o, o = (small 4096 b).isSome := ⟨_, rfl⟩
  obtain ⟨x, hx⟩ : ∃ x, x = gnI a := ⟨_, rfl⟩
  obtain ⟨y, hy⟩ : ∃ x, x = gnI b := ⟨_, rfl⟩
  have HN1 : Hid (∀ w, Calls Tryz.prog 47 #[.string A] w (RB (.tuple #[.int .i64 x, .bool o1]) w)) := Lib.hid (by rw [hx, ho1, ← bA]; exact fun w => r_small w A (by unfold maxLen; omega))
  have HN2 : Hid (∀ w, Calls Tryz.prog 47 #[.string D] w (RB (.tuple #[.int .i64 y, .bool o2]) w)) := Lib.hid (by rw [hy, ho2, ← bD]; exact fun w => r_small w D (by unfold maxLen; omega))
  obtain ⟨xn, hxn⟩ := Option.isSome_iff_exists.1 hy1
  obtain ⟨yn, hyn⟩ := Option.isSome_iff_exists.1 hy2
  rw [gnI_small hxn] at hx
  rw [gnI_small hyn] at hy
  rw [hxn] at ho1
  rw [hyn] at ho2
  simp only [Option.isSome_some] at ho1 ho2
  subst ho1 ho2
  rw [readH_yes ha hxn hyn h3]
  rw [← hx, ← hy]
  obtain ⟨F, cz, cf, hF⟩ : ∃ (F : Array Value) (cz cf : Int), (if checkH ⟨r, x, y, p, []⟩ = true then cz = 0 ∧ cf = 0 ∧ F = hdA R x y p ⟨#[]⟩ else cz = 2 ∧ cf = 6 ∧ F = hdZ) := by
    split
    · exact ⟨_, 0, 0, rfl, rfl, rfl⟩
    · exact ⟨_, 2, 6, rfl, rfl, rfl⟩
  have hC0 : ∀ E1, E1 = hdA R x y p ⟨#[]⟩ → ∀ w, Calls Tryz.prog 19 #[.agg E1] w (RB (.int .i64 cz) w) := by
    intro E1 hE1 w
    have := r_Check w E1 R x y p ⟨#[]⟩ ⟨hE1, h3⟩ (by omega) (Nat.zero_le _)
    rw [show hdOf R x y p ⟨#[]⟩ = ⟨r, x, y, p, []⟩ by simp [hdOf, bR]; rfl] at this
    by_cases hc : checkH ⟨r, x, y, p, []⟩ = true
    · rw [if_pos hc] at hF
      rw [hF.1]
      rw [hc] at this
      exact this
    · rw [if_neg hc] at hF
      rw [hF.1]
      rw [Bool.not_eq_true] at hc
      rw [hc] at this
      exact this
  rw [show hdV (if checkH ⟨r, x, y, p, []⟩ = true then some ⟨r, x, y, p, []⟩ else none) = .tuple #[.agg F, .int .i64 cf] from by
    split at hF
    · rename_i hc
      rw [if_pos hc, hF.2.1, hF.2.2, hR]
      rfl
    · rename_i hc
      rw [if_neg hc, hF.2.1, hF.2.2]
      rfl]
  have hW : (cz = 0 ∧ cf = 0 ∧ F = hdA R x y p ⟨#[]⟩) ∨ ((cz != 0) = true ∧ cf = 6 ∧ F = hdZ) := by
    split at hF
    · exact .inl hF
    · exact .inr ⟨by rw [hF.1]; rfl, hF.2⟩
  clear hF hxn hyn hy1 hy2
  obtain ⟨Z', hZ'⟩ : ∃ Z, Z = hdZ := ⟨_, rfl⟩
  rw [← hZ'] at hW
  obtain ⟨Z, hZ⟩ : ∃ Z, Z = hdZ := ⟨_, rfl⟩
  have HLIT : Hid ((#[.string ⟨#[]⟩, .int .i64 0, .int .i64 0, .int .u8 0, .int .u8 0, .int .u8 0, .int .u8 0, .int .u8 0, .int .u8 0, .int .u8 0, .int .u8 0, .int .u8 0, .int .u8 0, .int .u8 0, .int .u8 0, .int .u8 0, .int .u8 0, .int .u8 0, .int .u8 0, .int .u8 0, .int .u8 0, .int .u8 0, .int .u8 0, .int .u8 0, .int .u8 0, .int .u8 0, .int .u8 0, .int .u8 0, .int .u8 0, .int .u8 0, .int .u8 0, .int .u8 0, .int .u8 0, .int .u8 0, .int .u8 0, .string ⟨#[]⟩] : Array Value) = Z) := Lib.hid (by rw [hZ]; kernel_rfl)
  have HZN : Hid (Z.size = 36) := Lib.hid (by rw [hZ]; kernel_rfl)
  have HZS : Hid ((Tryz.prog.info? 25).map (·.size) = some Z.size) := Lib.hid (by rw [hZ]; kernel_rfl)
  have HZO : Hid (Z.all (·.oneCell') = true) := Lib.hid (by rw [hZ]; exact hdA_one _ _ _ _ _)
  try rw [← hZ]
  obtain ⟨w0, hw0⟩ : ∃ w0, w0 = w.alloc (.cells Z 25) := ⟨_, rfl⟩
  have hb0 : Below w.heap.size w w0 := by rw [hw0]; exact (Below.refl _ _).alloc (Nat.le_refl _) _
  have HX0 : Hid (w0.heap[w.heap.size]? = some (.cells Z 25 (0, 0))) := Lib.hid (by rw [hw0]; exact heap_new _ _)
  have lX0 := lt_row HX0.out
  have HBL0 := Lib.hid hb0
  have HW0 := Lib.hid hw0
  have hZZ : Z = Z' := by rw [hZ, hZ']
  subst hZZ
  clear hw0 hb0 hZ hZ'
  obtain ⟨E0, hE0⟩ : ∃ E, E = hdA R x y zero32 ⟨#[]⟩ := ⟨_, rfl⟩
  have hE0n : E0.size = 36 := by rw [hE0]; exact hdA_size (by first | rfl | assumption)
  have HE0S : Hid ((Tryz.prog.info? 25).map (·.size) = some E0.size) := Lib.hid (by rw [hE0n, ← HZN.out]; exact HZS.out)
  have HE0Z : Hid (Z.size = E0.size) := Lib.hid (by rw [hE0n, HZN.out])
  have HE0N : Hid (36 = E0.size) := Lib.hid hE0n.symm
  have HE0O : Hid (E0.all (·.oneCell') = true) := Lib.hid (by rw [hE0]; exact hdA_one _ _ _ _ _)
  have HE0 := Lib.hid hE0
  clear hE0n
  obtain ⟨E1, hE1⟩ : ∃ E, E = hdA R x y p ⟨#[]⟩ := ⟨_, rfl⟩
  have hE1n : E1.size = 36 := by rw [hE1]; exact hdA_size (by first | rfl | assumption)
  have HE1S : Hid ((Tryz.prog.info? 25).map (·.size) = some E1.size) := Lib.hid (by rw [hE1n, ← HZN.out]; exact HZS.out)
  have HE1Z : Hid (Z.size = E1.size) := Lib.hid (by rw [hE1n, HZN.out])
  have HE1N : Hid (36 = E1.size) := Lib.hid hE1n.symm
  have HE1O : Hid (E1.all (·.oneCell') = true) := Lib.hid (by rw [hE1]; exact hdA_one _ _ _ _ _)
  have HE1 := Lib.hid hE1
  clear hE1n
  have HC := Lib.hid (hC0 E1 hE1)
  rw [← hE1] at hW
  have HW' := Lib.hid hW
  clear hC0 hW
  have hcopy : (E0.toList.take 3 ++ byV ((bl P).take 32) ++ E0.toList.drop (3 + 32)).toArray = E1 := by
    rw [hE0, hE1, bP]
    exact hd_copy _ _ _ zero32_len h3 _
  have Hcopy := Lib.hid hcopy
  clear hcopy
  have hP32 : P.size = 32 := by omega
  clear ha hx hy hK hR hA hD hP  bK bR bA bD bP  zP2 h3 hE0 hE1 
  go_enter Tryz.func15, Tryz.ntmps15
  go_wp2_with fail
  rw [HLIT.out, ← HW0.out]
  refine (HALL.out w0).mono ?_
  rintro e w1 ⟨v, rfl, hl, hb⟩
  obtain ⟨B, cap, rfl, hB, hc⟩ := list_n 5 hl rfl (by omega)
  clear hl
  have hc0_1 : w1.cell? ⟨B, 0, none⟩ = some (.string K) := by rw [HK.out]; exact hc 0 _ rfl
  have hc1_1 : w1.cell? ⟨B, 1, none⟩ = some (.string R) := by rw [HR.out]; exact hc 1 _ rfl
  have hc2_1 : w1.cell? ⟨B, 2, none⟩ = some (.string A) := by rw [HA.out]; exact hc 2 _ rfl
  have hc3_1 : w1.cell? ⟨B, 3, none⟩ = some (.string D) := by rw [HD.out]; exact hc 3 _ rfl
  have hc4_1 : w1.cell? ⟨B, 4, none⟩ = some (.string P) := by rw [HP.out]; exact hc 4 _ rfl
  have hBX : ¬ w.heap.size = B := by omega
  clear hc hB
  have HX1 := Lib.hid ((hb.block _ lX0).trans HX0.out)
  have lX1 := lt_row HX1.out
  have HBL1 := Lib.hid (HBL0.out.trans (hb.mono HBL0.out.size))
  clear hb 
  clear lX0
  have hc0x1 := hc0_1
  clear hc0_1
  have hc1x1 := hc1_1
  clear hc1_1
  have hc2x1 := hc2_1
  clear hc2_1
  have hc3x1 := hc3_1
  clear hc3_1
  have hc4x1 := hc4_1
  clear hc4_1
  go_wp2_with fail
  refine (HN1.out w1).mono ?_
  rintro e w2 ⟨rfl, hb⟩
  have HX2 := Lib.hid ((hb.block _ lX1).trans HX1.out)
  have lX2 := lt_row HX2.out
  have HBL2 := Lib.hid (HBL1.out.trans (hb.mono HBL1.out.size))
  have hc0x2 := below_cell hb hc0x1
  have hc1x2 := below_cell hb hc1x1
  have hc2x2 := below_cell hb hc2x1
  have hc3x2 := below_cell hb hc3x1
  have hc4x2 := below_cell hb hc4x1
  clear hb hc0x1 hc1x1 hc2x1 hc3x1 hc4x1
  clear lX1
  go_wp2_with fail
  refine (HN2.out w2).mono ?_
  rintro e w3 ⟨rfl, hb⟩
  have HX3 := Lib.hid ((hb.block _ lX2).trans HX2.out)
  have lX3 := lt_row HX3.out
  have HBL3 := Lib.hid (HBL2.out.trans (hb.mono HBL2.out.size))
  have hc0x3 := below_cell hb hc0x2
  have hc1x3 := below_cell hb hc1x2
  have hc2x3 := below_cell hb hc2x2
  have hc3x3 := below_cell hb hc3x2
  have hc4x3 := below_cell hb hc4x2
  clear hb hc0x2 hc1x2 hc2x2 hc3x2 hc4x2
  clear lX2
  go_wp2_with (first | (refine wpList_store_rowA rfl _ _ _ rfl w3.heap.size E0 rfl (by rw [HE0.out]; first | rfl | kernel_rfl) _ _ (heap_new _ _) HE0S.out HE0N.out HE0O.out ?_) | fail)
  intro u2 hu2
  have hbu : Below w3.heap.size w3 u2 := by rw [hu2.out]; exact below_row ((Below.refl _ _).alloc (Nat.le_refl _) _) (Nat.le_refl _) _
  have hyu : u2.heap[w3.heap.size]? = some (.cells E0 25 (0, 0)) := by rw [hu2.out]; exact setRow_at (heap_new _ _)
  have HBU := Lib.hid hbu
  have HYU := Lib.hid hyu
  have lYU := lt_row HYU.out
  clear hbu hyu hu2
  go_wp2_with fail
  refine wp_region_noPanic ?_
  refine Wr.region_K (S := (fun W => W.cell? ⟨B, 4, none⟩ = some (.string P))) (K := []) (by kernel_rfl) ?_
  change Wr.wpAnyK _ _ _ _ _ _ _ _ _ (World.drew u2)
  have hBL0 : Below w3.heap.size w3 (World.drew u2) := Bl.drew HBU.out
  have hS0 : (World.drew u2).cell? ⟨B, 4, none⟩ = some (.string P) := below_cell hBL0 hc4x3
  refine Wr.wpAnyK_take (i := 0) (v := ?_) rfl (by kernel_rfl) (fun _ _ _ h => h) (Or.inl ⟨by rfl, ?_⟩) hS0 ?_
  rotate_left
  · intro wq hSw
    have q0 := hSw
    go_simp
    rfl
  simp only [Act.put, sx1, sx2, sx3, sx4, sx5, sx6]
  refine Wr.wpAnyK_take (i := 1) (v := ?_) rfl (by kernel_rfl) (fun _ _ _ h => h) (Or.inl ⟨by rfl, ?_⟩) hS0 ?_
  rotate_left
  · intro wq hSw
    have q0 := hSw
    go_simp
    rfl
  simp only [Act.put, sx1, sx2, sx3, sx4, sx5, sx6]
  refine Wr.wpAnyK_take (i := 2) (v := ?_) rfl (by kernel_rfl) (fun _ _ _ h => h) (Or.inl ⟨by rfl, ?_⟩) hS0 ?_
  rotate_left
  · intro wq hSw
    have q0 := hSw
    go_simp
    rfl
  simp only [Act.put, sx1, sx2, sx3, sx4, sx5, sx6]
  refine Wr.wpAnyK_take (i := 3) (v := ?_) rfl (by kernel_rfl) (fun _ _ _ h => h) (Or.inl ⟨by rfl, ?_⟩) hS0 ?_
  rotate_left
  · intro wq hSw
    have q0 := hSw
    go_simp
    rfl
  simp only [Act.put, sx1, sx2, sx3, sx4, sx5, sx6]
  refine Wr.wpAnyK_take (i := 4) (v := ?_) rfl (by kernel_rfl) (fun _ _ _ h => h) (Or.inl ⟨by rfl, ?_⟩) hS0 ?_
  rotate_left
  · intro wq hSw
    have q0 := hSw
    go_simp
    rfl
  simp only [Act.put, sx1, sx2, sx3, sx4, sx5, sx6]
  refine Wr.wpAnyK_one (i := 5) (by kernel_rfl) ?_
  refine WrC.wpOp_copy_str rfl (by rfl) (.tmp 58) (.tmp 61) _ _ rfl _ Tryz.underlying66 (by kernel_rfl) w3.heap.size 3 32 32 P rfl rfl _ _ HYU.out 32 (by rw [hP32]; rfl) (by rw [← HE0N.out]; omega) ?_
  intro w4 hw_w4
  have hBL1 : Below w3.heap.size w3 w4 := by rw [hw_w4.out]; exact below_row hBL0 (Nat.le_refl _) _
  have hS1 : w4.cell? ⟨B, 4, none⟩ = some (.string P) := below_cell hBL1 hc4x3
  refine ⟨hS1, ?_⟩
  simp only [Act.put, sx1, sx2, sx3, sx4, sx5, sx6]
  have hy_w4 : w4.heap[w3.heap.size]? = some (.cells E1 25 (0, 0)) := by rw [hw_w4.out, Hcopy.out]; exact setRow_at HYU.out
  refine Wr.wpAnyK_done (by kernel_rfl) (NoPanic.normal ?_) _
  have HY4 := Lib.hid hy_w4
  have lY4 := lt_row HY4.out
  have HX4 := Lib.hid ((hBL1.block _ lX3).trans HX3.out)
  have lX4 := lt_row HX4.out
  have HBL4 := Lib.hid (HBL3.out.trans (hBL1.mono HBL3.out.size))
  have hc0x4 := below_cell hBL1 hc0x3
  have hc1x4 := below_cell hBL1 hc1x3
  have hc2x4 := below_cell hBL1 hc2x3
  have hc3x4 := below_cell hBL1 hc3x3
  have hc4x4 := below_cell hBL1 hc4x3
  go_wp2_with (first | (refine wpList_load_rowG (by rfl) _ _ rfl w3.heap.size rfl _ E1 (0, 0) _ HY4.out Tryz.underlying25 rfl HE1S.out ?_) | fail)
  refine (HC.out w4).mono ?_
  rintro e w5 ⟨rfl, hb⟩
  have HX5 := Lib.hid ((hb.block _ lX4).trans HX4.out)
  have lX5 := lt_row HX5.out
  have HY5 := Lib.hid ((hb.block _ lY4).trans HY4.out)
  have lY5 := lt_row HY5.out
  have HBL5 := Lib.hid (HBL4.out.trans (hb.mono HBL4.out.size))
  have hc0x5 := below_cell hb hc0x4
  have hc1x5 := below_cell hb hc1x4
  have hc2x5 := below_cell hb hc2x4
  have hc3x5 := below_cell hb hc3x4
  have hc4x5 := below_cell hb hc4x4
  clear hb hc0x4 hc1x4 hc2x4 hc3x4 hc4x4
  clear lX4 lY4
  rcases HW'.out with ⟨hz, rfl, rfl⟩ | ⟨hz, rfl, hFZ⟩
  · skip
    go_wp2_with (first | (refine wpList_load_row rfl _ _ rfl w3.heap.size rfl _ F (0, 0) _ HY5.out Tryz.underlying25 rfl HE1S.out ?_) | (refine wpList_store_rowA rfl _ _ _ rfl w.heap.size F rfl rfl _ _ HX5.out HE1S.out HE1Z.out HE1O.out ?_) | fail)
    intro wf hwf
    go_wp2
    refine bodyPost_ret (v := .tuple #[.agg F, .int .i64 0]) (results_cell_slot rfl _ _ w.heap.size 25 F (0, 0) _ rfl (by rw [hwf.out]; exact setRow_at HX5.out) Tryz.underlying25 rfl HE1S.out rfl) rfl ⟨rfl, by rw [hwf.out]; exact below_row HBL5.out (Nat.le_refl _) _⟩
  · skip
    obtain rfl : Z = F := hFZ.symm
    go_wp2_with (first | (refine wpList_store_rowA rfl _ _ _ rfl w.heap.size Z rfl (by rw [← HLIT.out]; rfl) _ _ HX5.out HZS.out rfl HZO.out ?_) | fail)
    intro wf hwf
    go_wp2
    refine bodyPost_ret (v := .tuple #[.agg Z, .int .i64 6]) (results_cell_slot rfl _ _ w.heap.size 25 Z (0, 0) _ rfl (by rw [hwf.out]; exact setRow_at HX5.out) Tryz.underlying25 rfl HZS.out rfl) rfl ⟨rfl, by rw [hwf.out]; exact below_row HBL5.out (Nat.le_refl _) _⟩

theorem Read_ok (w : World) (s : ByteArray) (hs : s.size ≤ 140737488351232) :
    Calls Tryz.prog 15 #[.string s] w (RB (hdV (readH (bl s))) w) := by
  obtain ⟨l, y, ha⟩ : ∃ l y, all (bl s) = (l, y) := ⟨_, _, rfl⟩
  by_cases h0 : y = 0
  · subst h0
    by_cases h6 : l.length = 5
    · match l, h6, ha with
      | [k, r, a, b, p], _, ha =>
        by_cases hk : k = markH
        · subst hk
          by_cases h3 : p.length = 32
          · cases h1 : (small 4096 a).isSome with
            | false => exact Read_no w s hs ha h3 (by rw [h1]; rfl)
            | true =>
              cases h2 : (small 4096 b).isSome with
              | false => exact Read_no w s hs ha h3 (by rw [h1, h2]; rfl)
              | true => exact Read_yes w s hs ha h3 h1 h2
          · exact Read_len w s hs ha h3
        · exact Read_mark w s hs ha hk
    · exact Read_bad w s hs ha (.inr ⟨rfl, h6⟩)
  · exact Read_bad w s hs ha (.inl h0)

set_option maxRecDepth 100000 in
set_option maxHeartbeats 4000000 in
theorem Parse_bad (w : World) (s : ByteArray) (hs : s.size ≤ 140737488351232) {l : List (List UInt8)} {y : Int} (ha : all (bl s) = (l, y)) (hbad : y ≠ 0 ∨ (y = 0 ∧ l.length ≠ 2)) :
    Calls Tryz.prog 13 #[.string s] w (RB (hdV (parseH (bl s))) w) := by
  have hA := fun w => Ref1A.All_ok w s (by unfold maxLen; omega)
  unfold AllPost at hA
  rw [ha] at hA
  have HALL := Lib.hid hA
  clear hA
  rw [parseH_bad ha (by omega)]
  show Calls _ _ _ w (RB (.tuple #[.agg hdZ, .int .i64 6]) w)
  obtain ⟨Z, hZ⟩ : ∃ Z, Z = hdZ := ⟨_, rfl⟩
  have HLIT : Hid ((#[.string ⟨#[]⟩, .int .i64 0, .int .i64 0, .int .u8 0, .int .u8 0, .int .u8 0, .int .u8 0, .int .u8 0, .int .u8 0, .int .u8 0, .int .u8 0, .int .u8 0, .int .u8 0, .int .u8 0, .int .u8 0, .int .u8 0, .int .u8 0, .int .u8 0, .int .u8 0, .int .u8 0, .int .u8 0, .int .u8 0, .int .u8 0, .int .u8 0, .int .u8 0, .int .u8 0, .int .u8 0, .int .u8 0, .int .u8 0, .int .u8 0, .int .u8 0, .int .u8 0, .int .u8 0, .int .u8 0, .int .u8 0, .string ⟨#[]⟩] : Array Value) = Z) := Lib.hid (by rw [hZ]; kernel_rfl)
  have HZN : Hid (Z.size = 36) := Lib.hid (by rw [hZ]; kernel_rfl)
  have HZS : Hid ((Tryz.prog.info? 25).map (·.size) = some Z.size) := Lib.hid (by rw [hZ]; kernel_rfl)
  have HZO : Hid (Z.all (·.oneCell') = true) := Lib.hid (by rw [hZ]; exact hdA_one _ _ _ _ _)
  rw [← hZ]
  obtain ⟨w0, hw0⟩ : ∃ w0, w0 = w.alloc (.cells Z 25) := ⟨_, rfl⟩
  have hb0 : Below w.heap.size w w0 := by rw [hw0]; exact (Below.refl _ _).alloc (Nat.le_refl _) _
  have HX0 : Hid (w0.heap[w.heap.size]? = some (.cells Z 25 (0, 0))) := Lib.hid (by rw [hw0]; exact heap_new _ _)
  have lX0 := lt_row HX0.out
  have HBL0 := Lib.hid hb0
  have HW0 := Lib.hid hw0
  clear hw0 hb0 hZ
  have hcase : (y != 0) = true ∨ (y = 0 ∧ ((l.length : Int) != 2) = true) := by
    rcases hbad with h | ⟨h0, h⟩
    · exact .inl (by simpa using h)
    · exact .inr ⟨h0, by simp; omega⟩
  clear hbad ha
  rcases hcase with hy | ⟨rfl, hy⟩
  all_goals
    go_enter Tryz.func13, Tryz.ntmps13
    go_wp2_with fail
    rw [HLIT.out, ← HW0.out]
    refine (HALL.out w0).mono ?_
    rintro e w1 ⟨v, rfl, hl, hb⟩
    obtain ⟨av, cap, rfl, _, _⟩ := (Sl.ofOwn hl).form
    clear hl
    have HX1 := Lib.hid ((hb.block _ lX0).trans HX0.out)
    have lX1 := lt_row HX1.out
    have HBL1 := Lib.hid (HBL0.out.trans (hb.mono HBL0.out.size))
    clear hb 
    clear lX0
    go_wp2_with (first | (refine wpList_store_rowA rfl _ _ _ rfl w.heap.size Z rfl (by rw [← HLIT.out]; rfl) _ _ HX1.out HZS.out rfl HZO.out ?_) | fail)
    intro wf hwf
    go_wp2
    refine bodyPost_ret (v := .tuple #[.agg Z, .int .i64 6]) (results_cell_slot rfl _ _ w.heap.size 25 Z (0, 0) _ rfl (by rw [hwf.out]; exact setRow_at HX1.out) Tryz.underlying25 rfl HZS.out rfl) rfl ⟨rfl, by rw [hwf.out]; exact below_row HBL1.out (Nat.le_refl _) _⟩

set_option maxRecDepth 100000 in
set_option maxHeartbeats 4000000 in
theorem Parse_two (w : World) (s : ByteArray) (hs : s.size ≤ 140737488351232) {t g : List UInt8} (ha : all (bl s) = ([t, g], 0)) :
    Calls Tryz.prog 13 #[.string s] w (RB (hdV (parseH (bl s))) w) := by
  have hA := fun w => Ref1A.All_ok w s (by unfold maxLen; omega)
  unfold AllPost at hA
  rw [ha] at hA
  have HALL := Lib.hid hA
  clear hA
  rw [parseH_two ha]
  obtain ⟨T, hT⟩ : ∃ x, x = bsOf t := ⟨_, rfl⟩
  have bT : bl T = t := by rw [hT, bl_bsOf]
  have zT : T.size ≤ 8192 := by rw [hT]; exact parts_len ha _ (by simp)
  have HT := Lib.hid hT
  obtain ⟨G, hG⟩ : ∃ x, x = bsOf g := ⟨_, rfl⟩
  have bG : bl G = g := by rw [hG, bl_bsOf]
  have zG : G.size ≤ 8192 := by rw [hG]; exact parts_len ha _ (by simp)
  have HG := Lib.hid hG
  have hR : ∀ w, Calls Tryz.prog 15 #[.string T] w (RB (hdV (readH t)) w) := by
    intro w
    have := Read_ok w T (by omega)
    rw [bT] at this
    exact this
  cases hread : readH t with
  | none =>
    rw [hread] at hR
    show Calls _ _ _ w (RB (.tuple #[.agg hdZ, .int .i64 6]) w)
    simp only [hdV] at hR
    obtain ⟨Z', hZ'⟩ : ∃ Z, Z = hdZ := ⟨_, rfl⟩
    rw [← hZ'] at hR
    obtain ⟨Z, hZ⟩ : ∃ Z, Z = hdZ := ⟨_, rfl⟩
    have HLIT : Hid ((#[.string ⟨#[]⟩, .int .i64 0, .int .i64 0, .int .u8 0, .int .u8 0, .int .u8 0, .int .u8 0, .int .u8 0, .int .u8 0, .int .u8 0, .int .u8 0, .int .u8 0, .int .u8 0, .int .u8 0, .int .u8 0, .int .u8 0, .int .u8 0, .int .u8 0, .int .u8 0, .int .u8 0, .int .u8 0, .int .u8 0, .int .u8 0, .int .u8 0, .int .u8 0, .int .u8 0, .int .u8 0, .int .u8 0, .int .u8 0, .int .u8 0, .int .u8 0, .int .u8 0, .int .u8 0, .int .u8 0, .int .u8 0, .string ⟨#[]⟩] : Array Value) = Z) := Lib.hid (by rw [hZ]; kernel_rfl)
    have HZN : Hid (Z.size = 36) := Lib.hid (by rw [hZ]; kernel_rfl)
    have HZS : Hid ((Tryz.prog.info? 25).map (·.size) = some Z.size) := Lib.hid (by rw [hZ]; kernel_rfl)
    have HZO : Hid (Z.all (·.oneCell') = true) := Lib.hid (by rw [hZ]; exact hdA_one _ _ _ _ _)
    rw [← hZ]
    obtain ⟨w0, hw0⟩ : ∃ w0, w0 = w.alloc (.cells Z 25) := ⟨_, rfl⟩
    have hb0 : Below w.heap.size w w0 := by rw [hw0]; exact (Below.refl _ _).alloc (Nat.le_refl _) _
    have HX0 : Hid (w0.heap[w.heap.size]? = some (.cells Z 25 (0, 0))) := Lib.hid (by rw [hw0]; exact heap_new _ _)
    have lX0 := lt_row HX0.out
    have HBL0 := Lib.hid hb0
    have HW0 := Lib.hid hw0
    have hZZ : Z = Z' := by rw [hZ, hZ']
    subst hZZ
    clear hw0 hb0 hZ hZ'
    have HR := Lib.hid hR
    clear hR ha hread hT hG bT bG
    go_enter Tryz.func13, Tryz.ntmps13
    go_wp2_with fail
    rw [HLIT.out, ← HW0.out]
    refine (HALL.out w0).mono ?_
    rintro e w1 ⟨v, rfl, hl, hb⟩
    obtain ⟨B, cap, rfl, hB, hc⟩ := list_n 2 hl rfl (by omega)
    clear hl
    have hc0_1 : w1.cell? ⟨B, 0, none⟩ = some (.string T) := by rw [HT.out]; exact hc 0 _ rfl
    have hc1_1 : w1.cell? ⟨B, 1, none⟩ = some (.string G) := by rw [HG.out]; exact hc 1 _ rfl
    have hBX : ¬ w.heap.size = B := by omega
    clear hc hB
    have HX1 := Lib.hid ((hb.block _ lX0).trans HX0.out)
    have lX1 := lt_row HX1.out
    have HBL1 := Lib.hid (HBL0.out.trans (hb.mono HBL0.out.size))
    clear hb 
    clear lX0
    have hc0x1 := hc0_1
    clear hc0_1
    have hc1x1 := hc1_1
    clear hc1_1
    go_wp2_with fail
    refine (HR.out w1).mono ?_
    rintro e w2 ⟨rfl, hb⟩
    have HX2 := Lib.hid ((hb.block _ lX1).trans HX1.out)
    have lX2 := lt_row HX2.out
    have HBL2 := Lib.hid (HBL1.out.trans (hb.mono HBL1.out.size))
    have hc0x2 := below_cell hb hc0x1
    have hc1x2 := below_cell hb hc1x1
    clear hb hc0x1 hc1x1
    clear lX1
    go_wp2_with (first | (refine wpList_store_rowA rfl _ _ _ rfl w2.heap.size Z rfl rfl _ _ (heap_new _ _) HZS.out HZN.out.symm HZO.out ?_) | fail)
    intro u1 hu1
    have hb : Below w2.heap.size w2 u1 := by rw [hu1.out]; exact below_row ((Below.refl _ _).alloc (Nat.le_refl _) _) (Nat.le_refl _) _
    have hy1 : u1.heap[w2.heap.size]? = some (.cells Z 25 (0, 0)) := by rw [hu1.out]; exact setRow_at (heap_new _ _)
    clear hu1
    have HY1 := Lib.hid hy1
    clear hy1
    obtain ⟨w3, hww⟩ : ∃ w', w' = u1 := ⟨_, rfl⟩
    rw [← hww] at hb HY1 ⊢
    clear hww
    have HX3 := Lib.hid ((hb.block _ lX2).trans HX2.out)
    have lX3 := lt_row HX3.out
    have HBL3 := Lib.hid (HBL2.out.trans (hb.mono HBL2.out.size))
    have hc0x3 := below_cell hb hc0x2
    have hc1x3 := below_cell hb hc1x2
    clear hb hc0x2 hc1x2
    clear lX2
    go_wp2_with (first | (refine wpList_store_rowA rfl _ _ _ rfl w.heap.size Z rfl (by rw [← HLIT.out]; rfl) _ _ HX3.out HZS.out rfl HZO.out ?_) | fail)
    intro wf hwf
    go_wp2
    refine bodyPost_ret (v := .tuple #[.agg Z, .int .i64 6]) (results_cell_slot rfl _ _ w.heap.size 25 Z (0, 0) _ rfl (by rw [hwf.out]; exact setRow_at HX3.out) Tryz.underlying25 rfl HZS.out rfl) rfl ⟨rfl, by rw [hwf.out]; exact below_row HBL3.out (Nat.le_refl _) _⟩
  | some x =>
    obtain ⟨hp, hsg, _⟩ := readH_len hread
    rw [hread] at hR
    obtain ⟨r0, x1, x2, p0, s0⟩ := x
    simp only at hp hsg
    subst hsg
    simp only [hdV] at hR
    show Calls _ _ _ w (RB (.tuple #[.agg (hdA (bsOf r0) x1 x2 p0 (bsOf g)), .int .i64 0]) w)
    obtain ⟨R, hR0⟩ : ∃ x, x = bsOf r0 := ⟨_, rfl⟩
    rw [← hR0, bsOf_nil] at hR
    rw [← hR0, ← hG]
    obtain ⟨Z, hZ⟩ : ∃ Z, Z = hdZ := ⟨_, rfl⟩
    have HLIT : Hid ((#[.string ⟨#[]⟩, .int .i64 0, .int .i64 0, .int .u8 0, .int .u8 0, .int .u8 0, .int .u8 0, .int .u8 0, .int .u8 0, .int .u8 0, .int .u8 0, .int .u8 0, .int .u8 0, .int .u8 0, .int .u8 0, .int .u8 0, .int .u8 0, .int .u8 0, .int .u8 0, .int .u8 0, .int .u8 0, .int .u8 0, .int .u8 0, .int .u8 0, .int .u8 0, .int .u8 0, .int .u8 0, .int .u8 0, .int .u8 0, .int .u8 0, .int .u8 0, .int .u8 0, .int .u8 0, .int .u8 0, .int .u8 0, .string ⟨#[]⟩] : Array Value) = Z) := Lib.hid (by rw [hZ]; kernel_rfl)
    have HZN : Hid (Z.size = 36) := Lib.hid (by rw [hZ]; kernel_rfl)
    have HZS : Hid ((Tryz.prog.info? 25).map (·.size) = some Z.size) := Lib.hid (by rw [hZ]; kernel_rfl)
    have HZO : Hid (Z.all (·.oneCell') = true) := Lib.hid (by rw [hZ]; exact hdA_one _ _ _ _ _)
    obtain ⟨w0, hw0⟩ : ∃ w0, w0 = w.alloc (.cells Z 25) := ⟨_, rfl⟩
    have hb0 : Below w.heap.size w w0 := by rw [hw0]; exact (Below.refl _ _).alloc (Nat.le_refl _) _
    have HX0 : Hid (w0.heap[w.heap.size]? = some (.cells Z 25 (0, 0))) := Lib.hid (by rw [hw0]; exact heap_new _ _)
    have lX0 := lt_row HX0.out
    have HBL0 := Lib.hid hb0
    have HW0 := Lib.hid hw0
    clear hw0 hb0 hZ
    obtain ⟨E0, hE0⟩ : ∃ E, E = hdA R x1 x2 p0 ⟨#[]⟩ := ⟨_, rfl⟩
    have hE0n : E0.size = 36 := by rw [hE0]; exact hdA_size (by first | rfl | assumption)
    have HE0S : Hid ((Tryz.prog.info? 25).map (·.size) = some E0.size) := Lib.hid (by rw [hE0n, ← HZN.out]; exact HZS.out)
    have HE0Z : Hid (Z.size = E0.size) := Lib.hid (by rw [hE0n, HZN.out])
    have HE0N : Hid (36 = E0.size) := Lib.hid hE0n.symm
    have HE0O : Hid (E0.all (·.oneCell') = true) := Lib.hid (by rw [hE0]; exact hdA_one _ _ _ _ _)
    have HE0 := Lib.hid hE0
    clear hE0n
    obtain ⟨E1, hE1⟩ : ∃ E, E = hdA R x1 x2 p0 G := ⟨_, rfl⟩
    have hE1n : E1.size = 36 := by rw [hE1]; exact hdA_size (by first | rfl | assumption)
    have HE1S : Hid ((Tryz.prog.info? 25).map (·.size) = some E1.size) := Lib.hid (by rw [hE1n, ← HZN.out]; exact HZS.out)
    have HE1Z : Hid (Z.size = E1.size) := Lib.hid (by rw [hE1n, HZN.out])
    have HE1N : Hid (36 = E1.size) := Lib.hid hE1n.symm
    have HE1O : Hid (E1.all (·.oneCell') = true) := Lib.hid (by rw [hE1]; exact hdA_one _ _ _ _ _)
    have HE1 := Lib.hid hE1
    clear hE1n
    have hsig : E0.setIfInBounds 35 (.string G) = E1 := by rw [hE0, hE1]; exact hd_sig _ _ _ hp _ _
    have hc36 : E0[35]? = some (.string ⟨#[]⟩) := by rw [hE0]; exact HdP.c35 ⟨rfl, hp⟩
    rw [← hE0] at hR
    rw [← hE1]
    have HR := Lib.hid hR
    have Hsig := Lib.hid hsig
    have Hc36 := Lib.hid hc36
    clear hR hsig hc36 ha hread hT hG bT bG hE0 hE1 hp hR0 
    go_enter Tryz.func13, Tryz.ntmps13
    go_wp2_with fail
    rw [HLIT.out, ← HW0.out]
    refine (HALL.out w0).mono ?_
    rintro e w1 ⟨v, rfl, hl, hb⟩
    obtain ⟨B, cap, rfl, hB, hc⟩ := list_n 2 hl rfl (by omega)
    clear hl
    have hc0_1 : w1.cell? ⟨B, 0, none⟩ = some (.string T) := by rw [HT.out]; exact hc 0 _ rfl
    have hc1_1 : w1.cell? ⟨B, 1, none⟩ = some (.string G) := by rw [HG.out]; exact hc 1 _ rfl
    have hBX : ¬ w.heap.size = B := by omega
    clear hc hB
    have HX1 := Lib.hid ((hb.block _ lX0).trans HX0.out)
    have lX1 := lt_row HX1.out
    have HBL1 := Lib.hid (HBL0.out.trans (hb.mono HBL0.out.size))
    clear hb 
    clear lX0
    have hc0x1 := hc0_1
    clear hc0_1
    have hc1x1 := hc1_1
    clear hc1_1
    go_wp2_with fail
    refine (HR.out w1).mono ?_
    rintro e w2 ⟨rfl, hb⟩
    have HX2 := Lib.hid ((hb.block _ lX1).trans HX1.out)
    have lX2 := lt_row HX2.out
    have HBL2 := Lib.hid (HBL1.out.trans (hb.mono HBL1.out.size))
    have hc0x2 := below_cell hb hc0x1
    have hc1x2 := below_cell hb hc1x1
    clear hb hc0x1 hc1x1
    clear lX1
    go_wp2_with (first | (refine wpList_store_rowA rfl _ _ _ rfl w2.heap.size E0 rfl rfl _ _ (heap_new _ _) HE0S.out HE0N.out HE0O.out ?_) | fail)
    intro u1 hu1
    have hb : Below w2.heap.size w2 u1 := by rw [hu1.out]; exact below_row ((Below.refl _ _).alloc (Nat.le_refl _) _) (Nat.le_refl _) _
    have hy1 : u1.heap[w2.heap.size]? = some (.cells E0 25 (0, 0)) := by rw [hu1.out]; exact setRow_at (heap_new _ _)
    clear hu1
    have HY1 := Lib.hid hy1
    clear hy1
    obtain ⟨w3, hww⟩ : ∃ w', w' = u1 := ⟨_, rfl⟩
    rw [← hww] at hb HY1 ⊢
    clear hww
    have hj2 := HBL2
    have hgl : w.heap.size < w2.heap.size := lX2
    have HX3 := Lib.hid ((hb.block _ lX2).trans HX2.out)
    have lX3 := lt_row HX3.out
    have HBL3 := Lib.hid (HBL2.out.trans (hb.mono HBL2.out.size))
    have hc0x3 := below_cell hb hc0x2
    have hc1x3 := below_cell hb hc1x2
    clear hb hc0x2 hc1x2
    clear lX2
    have HYa := HY1
    have lYa := lt_row HYa.out
    obtain ⟨cy, fy⟩ := row_facts HYa.out
    have k36 : w3.cell? ⟨w2.heap.size, 35, none⟩ = some (.string ⟨#[]⟩) := (cy 35).trans Hc36.out
    have f36 := fy 35
    clear cy fy
    skip
    have hy5 : (w3.setCell ⟨w2.heap.size, 35, none⟩ (.string G)).heap[w2.heap.size]? = some (.cells E1 25 (0, 0)) := by rw [← Hsig.out]; exact heap_setCell_same HYa.out _
    have hx5 : (w3.setCell ⟨w2.heap.size, 35, none⟩ (.string G)).heap[w.heap.size]? = some (.cells Z 25 (0, 0)) := by rw [heap_setCell_far _ (by omega)]; exact HX3.out
    have hbl5 : Below w.heap.size w (w3.setCell ⟨w2.heap.size, 35, none⟩ (.string G)) := HBL3.out.setCell (p := ⟨w2.heap.size, 35, none⟩) (by show w.heap.size ≤ w2.heap.size; omega) _
    have HX4 := Lib.hid hx5
    have HBL4 := Lib.hid hbl5
    have HY4 := Lib.hid hy5
    clear hx5 hbl5 hy5 HYa lYa HX3 HBL3
    go_wp2_with (first | (refine wpList_load_row rfl _ _ rfl w2.heap.size rfl _ E1 (0, 0) _ HY4.out Tryz.underlying25 rfl HE1S.out ?_) | (refine wpList_store_rowA rfl _ _ _ rfl w.heap.size E1 rfl rfl _ _ HX4.out HE1S.out HE1Z.out HE1O.out ?_) | fail)
    intro wf hwf
    go_wp2
    refine bodyPost_ret (v := .tuple #[.agg E1, .int .i64 0]) (results_cell_slot rfl _ _ w.heap.size 25 E1 (0, 0) _ rfl (by rw [hwf.out]; exact setRow_at HX4.out) Tryz.underlying25 rfl HE1S.out rfl) rfl ⟨rfl, by rw [hwf.out]; exact below_row HBL4.out (Nat.le_refl _) _⟩

theorem Parse_ok (w : World) (s : ByteArray) (hs : s.size ≤ 140737488351232) :
    Calls Tryz.prog 13 #[.string s] w (RB (hdV (parseH (bl s))) w) := by
  obtain ⟨l, y, ha⟩ : ∃ l y, all (bl s) = (l, y) := ⟨_, _, rfl⟩
  by_cases h0 : y = 0
  · subst h0
    by_cases h2 : l.length = 2
    · match l, h2, ha with
      | [t, g], _, ha => exact Parse_two w s hs ha
    · exact Parse_bad w s hs ha (.inr ⟨rfl, h2⟩)
  · exact Parse_bad w s hs ha (.inl h0)

end Go.Proofs.YtdmonfimdinkeaaGreatDoor.WireF
