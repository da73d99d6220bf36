/-
  WHAT IS PROVED: the program's ident package reads an identifier of a text, and the server of one. Condition: the package's table of first bytes reads as its text lays it, and so do two of the library's errors ('VarsI').
-/
import Derived.Test.YtfodloepkgkilaaDoorIdentQ
namespace Go.Proofs.YtfodloepkgkilaaDoor.IdentR
open Go Go.RowKit Go.Proofs.YtfodloepkgkilaaDoor Go.Proofs.YtfodloepkgkilaaDoor.IdentS Go.Proofs.YtfodloepkgkilaaDoor.OctP Go.Proofs.YtfodloepkgkilaaDoor.IdentP Go.Proofs.YtfodloepkgkilaaDoor.IdentQ
set_option linter.unusedVariables false
set_option linter.unusedSimpArgs false

theorem cutA_length (c : UInt8) (l : List UInt8) : (cutA c l).length ≤ l.length := by
  unfold cutA
  exact (List.takeWhile_sublist _).length_le
theorem cutB_length (c : UInt8) (l : List UInt8) : (cutB c l).length ≤ l.length := by
  unfold cutB
  rw [List.length_drop]
  have := (List.dropWhile_sublist (fun d => decide (d ≠ c)) (l := l)).length_le
  omega

def AnyText (w : World) (e : Ending) (w' : World) : Prop := (∃ (s : ByteArray) (y : Int), e = .returned (.tuple #[.string s, .int .i64 y])) ∧ Below w.heap.size w w'
theorem Text_any (w : World) (k : Int) (nm : ByteArray) (sv : Int) (hv : VarsI w) (hn : nm.size ≤ maxLen) : Calls Tryd.prog 14 #[.agg #[.int .u8 k, .string nm, .int .i64 sv]] w (AnyText w) := by
  cases h : okB (idOf k nm sv)
  · exact (Text_no w k nm sv hn h).mono fun e w' ⟨h1, h2⟩ => ⟨⟨_, _, h1⟩, h2⟩
  · exact (Text_ok w k nm sv hv h).mono fun e w' ⟨h1, h2⟩ => ⟨⟨_, _, h1⟩, h2⟩

theorem kind_at (w : World) (s : ByteArray) (hv : VarsI w) {k : Int} (hk : kindOf (bl s) = k) : Calls Tryd.prog 56 #[.string s] w fun e w' => e = .returned (.int .u8 k) ∧ w = w' := by
  rw [← hk]
  exact kind_ok w s hv

set_option maxHeartbeats 1000000 in
theorem Parse_0 (w : World) (s : ByteArray) (hv : VarsI w) (hs : s.size ≤ 140737488351232) (hk : kindOf (bl s) = 0) : Calls Tryd.prog 16 #[.string s] w (ReadPost (bl s) w) := by
  have hfin := parse_kind0 hk
  have Hfin := Lib.hid hfin
  have Hk := Lib.hid hk
  have HV := Lib.hid (hv.below ((Below.refl _ w).alloc (Nat.le_refl _) (.cells #[.int .u8 0, .string ByteArray.empty, .int .i64 0] 24)))
  clear hfin hk hv
  go_enter Tryd.func16, Tryd.ntmps16
  go_wp2_with fail
  refine (kind_at _ s HV.out Hk.out).mono ?_
  rintro e w' ⟨rfl, rfl⟩
  go_wp2
  refine bodyPost_ret (v := .tuple #[.agg #[.int .u8 0, .string ByteArray.empty, .int .i64 0], .int .i64 6]) (by simp [results, Tryd.results16, go_sem]; try rfl) rfl ?_
  exact ⟨by rw [Hfin.out]; rfl, by go_grown⟩

set_option maxHeartbeats 2000000 in
theorem Parse_err1 (w : World) (s : ByteArray) (hv : VarsI w) (hs : s.size ≤ 140737488351232) (hs0 : 1 ≤ s.size) (hk : kindOf (bl s) = 1) (hp : puAll (cutB 58 ((bl s).drop 1)) = none) : Calls Tryd.prog 16 #[.string s] w (ReadPost (bl s) w) := by
  have hfin := parse_no_number hp
  have hx : bl (s.extract 1 s.size) = (bl s).drop 1 := by
    rw [bl_extract, List.take_of_length_le (by rw [List.length_drop, bl_length]; omega)]
  obtain ⟨A1, hA1⟩ : ∃ A1, A1 = bsOf (cutA 58 ((bl s).drop 1)) := ⟨_, rfl⟩
  obtain ⟨B1, hB1⟩ : ∃ B1, B1 = bsOf (cutB 58 ((bl s).drop 1)) := ⟨_, rfl⟩
  have hAs : A1.size ≤ maxLen := by
    have := cutA_length 58 ((bl s).drop 1)
    rw [List.length_drop, bl_length] at this
    rw [hA1, size_bsOf]
    unfold maxLen
    omega
  have hBs : B1.size ≤ 281474976710656 := by
    have := cutB_length 58 ((bl s).drop 1)
    rw [List.length_drop, bl_length] at this
    rw [hB1, size_bsOf]
    omega
  have hcut : ∀ w, Calls Tryd.prog 57 #[.string (s.extract 1 s.size), .string (bsOf [58])] w fun e w' => (∃ f : Bool, e = .returned (.tuple #[.string A1, .string B1, .bool f])) ∧ ∃ n, w' = w.drewN n := fun w => by
    have := cut_ok w (s.extract 1 s.size) (by rw [ByteArray.size_extract]; unfold maxLen; omega) 58
    rw [hx] at this
    rw [hA1, hB1]
    exact this
  have hpu : ∀ w, VarsI w → Calls Tryd.prog 58 #[.string B1, .int .i64 10, .int .i64 6] w fun e w' => (∃ (m : Int) (T : TypeId) (v : Value), e = .returned (.tuple #[.int .u64 m, .iface T v])) ∧ Below w.heap.size w w' := fun w hv => (pub_ok w B1 hv hBs).mono fun e w' h => by
    unfold PuPost2 at h
    rw [hB1, bl_bsOf, hp] at h
    exact h
  have htx : ∀ w (sv : Int), VarsI w → Calls Tryd.prog 14 #[.agg #[.int .u8 1, .string A1, .int .i64 sv]] w fun e w' => AnyText w e w' := fun w sv hv => Text_any w 1 A1 sv hv hAs
  obtain ⟨W0, hW0⟩ : ∃ W0, W0 = w.alloc (.cells #[.int .u8 0, .string ByteArray.empty, .int .i64 0] 24) := ⟨_, rfl⟩
  have hb0 : Below w.heap.size w W0 := by rw [hW0]; exact (Below.refl _ w).alloc (Nat.le_refl _) _
  have hbx : W0.heap[w.heap.size]? = some (.cells #[.int .u8 0, .string ByteArray.empty, .int .i64 0] 24 (0, 0)) := by rw [hW0]; exact heap_new _ _
  have HV := Lib.hid (hv.below hb0)
  have Hfin := Lib.hid hfin
  have Hk := Lib.hid hk
  have Hcut := Lib.hid hcut
  have Hpu := Lib.hid hpu
  have HW0 := Lib.hid hW0
  have Htx := Lib.hid htx
  clear hfin hk hv hA1 hB1 hx hp hcut hpu hW0 htx
  go_enter Tryd.func16, Tryd.ntmps16
  go_wp2_with fail
  rw [show (w.alloc (.cells #[.int .u8 0, .string ⟨#[]⟩, .int .i64 0] 24)) = W0 from HW0.out.symm]
  refine (kind_at W0 s HV.out Hk.out).mono ?_
  rintro e w' ⟨rfl, rfl⟩
  go_wp2_with fail
  refine (Hcut.out W0).mono ?_
  rintro e w' ⟨⟨f, rfl⟩, nd, rfl⟩
  go_wp2_with fail
  have HV1 := Lib.hid (HV.out.below (Bl.drewN (Below.refl _ W0) nd))
  refine (Hpu.out (W0.drewN nd) HV1.out).mono ?_
  rintro e w2 ⟨⟨m, T, v, rfl⟩, hb2⟩
  have hl2 : w.heap.size < W0.heap.size := lt_row hbx
  have hl3 : w.heap.size < w2.heap.size := Nat.lt_of_lt_of_le hl2 hb2.size
  have hbx2 : w2.heap[w.heap.size]? = some (.cells #[.int .u8 0, .string ByteArray.empty, .int .i64 0] 24 (0, 0)) := (hb2.block _ hl2).trans hbx
  have HB2 := Lib.hid (hb0.trans ((Bl.call (Bl.drewN (Below.refl _ W0) nd) hb2).mono hb0.size))
  have HV2 := Lib.hid (HV1.out.below hb2)
  clear hb2 hbx
  go_wp2_with fail
  have HV3 := Lib.hid (HV2.out.below ((Below.refl _ w2).alloc (Nat.le_refl _) (.cells #[.int .u8 1, .string A1, .int .i64 (wrap64 m)] 24)))
  refine (Htx.out _ _ HV3.out).mono ?_
  rintro e w3 ⟨⟨t3, y3, rfl⟩, hb3⟩
  have hbx3 : w3.heap[w.heap.size]? = some (.cells #[.int .u8 0, .string ByteArray.empty, .int .i64 0] 24 (0, 0)) := (hb3.block _ (by simp; omega)).trans ((Below.heap_alloc _ _ _ hl3).trans hbx2)
  have hby3 : w3.heap[w2.heap.size]? = some (.cells #[.int .u8 1, .string A1, .int .i64 (wrap64 m)] 24 (0, 0)) := (hb3.block _ (by simp)).trans (heap_new _ _)
  have HB3 := Lib.hid (HB2.out.trans (((Below.refl w2.heap.size w2).alloc (Nat.le_refl _) (.cells #[.int .u8 1, .string A1, .int .i64 (wrap64 m)] 24)).trans (hb3.mono (by simp)) |>.mono HB2.out.size))
  obtain ⟨hcell, hfroz⟩ := row_facts hbx3
  obtain ⟨hcell2, hfroz2⟩ := row_facts hby3
  have hl4 := lt_row hbx3
  clear hb3
  go_wp2
  obtain ⟨W4, hW4⟩ : ∃ W4, W4 = (((w3.setCell ⟨w.heap.size, 0, none⟩ (.int .u8 0)).setCell ⟨w.heap.size, 1, none⟩ (.string ByteArray.empty)).setCell ⟨w.heap.size, 2, none⟩ (.int .i64 0)) := ⟨_, rfl⟩
  have hb4 : W4.heap[w.heap.size]? = some (.cells #[.int .u8 0, .string ByteArray.empty, .int .i64 0] 24 (0, 0)) := by
    rw [hW4]
    exact heap_setCell_same (heap_setCell_same (heap_setCell_same hbx3 _) _) _
  have k0 : W4.cell? ⟨w.heap.size, 0, none⟩ = some (.int .u8 0) := cell_row hb4
  have k1 : W4.cell? ⟨w.heap.size, 1, none⟩ = some (.string ByteArray.empty) := cell_row hb4
  have k2 : W4.cell? ⟨w.heap.size, 2, none⟩ = some (.int .i64 0) := cell_row hb4
  have HB4 : Below w.heap.size w W4 := by
    rw [hW4]
    exact ((HB3.out.setCell (p := ⟨w.heap.size, 0, none⟩) (by simp) _).setCell (p := ⟨w.heap.size, 1, none⟩) (by simp) _).setCell (p := ⟨w.heap.size, 2, none⟩) (by simp) _
  first | rw [← hW4] | (change bodyPost _ _ _ _ _ (((w3.setCell ⟨w.heap.size, 0, none⟩ (.int .u8 0)).setCell ⟨w.heap.size, 1, none⟩ (.string ByteArray.empty)).setCell ⟨w.heap.size, 2, none⟩ (.int .i64 0)); rw [← hW4])
  clear hW4 hcell hcell2 hfroz hfroz2
  refine bodyPost_ret (v := .tuple #[.agg #[.int .u8 0, .string ByteArray.empty, .int .i64 0], .int .i64 6]) (by simp [results, Tryd.results16, go_sem, k0, k1, k2]) rfl ?_
  exact ⟨by rw [Hfin.out]; rfl, HB4⟩

set_option maxHeartbeats 2000000 in
theorem Parse_bad1 (w : World) (s : ByteArray) (hv : VarsI w) (hs : s.size ≤ 140737488351232) (hs0 : 1 ≤ s.size) (hk : kindOf (bl s) = 1) (n : Nat) (hp : puAll (cutB 58 ((bl s).drop 1)) = some n) (hok : okB (cand (bl s) n) = false) : Calls Tryd.prog 16 #[.string s] w (ReadPost (bl s) w) := by
  have hfin := (parse_cand hp).trans (if_neg (fun h => by rw [hok] at h; cases h.1))
  have hx : bl (s.extract 1 s.size) = (bl s).drop 1 := by
    rw [bl_extract, List.take_of_length_le (by rw [List.length_drop, bl_length]; omega)]
  obtain ⟨A1, hA1⟩ : ∃ A1, A1 = bsOf (cutA 58 ((bl s).drop 1)) := ⟨_, rfl⟩
  obtain ⟨B1, hB1⟩ : ∃ B1, B1 = bsOf (cutB 58 ((bl s).drop 1)) := ⟨_, rfl⟩
  have hAs : A1.size ≤ maxLen := by
    have := cutA_length 58 ((bl s).drop 1)
    rw [List.length_drop, bl_length] at this
    rw [hA1, size_bsOf]
    unfold maxLen
    omega
  have hBs : B1.size ≤ 281474976710656 := by
    have := cutB_length 58 ((bl s).drop 1)
    rw [List.length_drop, bl_length] at this
    rw [hB1, size_bsOf]
    omega
  have hcut : ∀ w, Calls Tryd.prog 57 #[.string (s.extract 1 s.size), .string (bsOf [58])] w fun e w' => (∃ f : Bool, e = .returned (.tuple #[.string A1, .string B1, .bool f])) ∧ ∃ n, w' = w.drewN n := fun w => by
    have := cut_ok w (s.extract 1 s.size) (by rw [ByteArray.size_extract]; unfold maxLen; omega) 58
    rw [hx] at this
    rw [hA1, hB1]
    exact this
  have hpu : ∀ w, VarsI w → Calls Tryd.prog 58 #[.string B1, .int .i64 10, .int .i64 6] w fun e w' => e = .returned (.tuple #[.int .u64 n, .nilIface]) ∧ Below w.heap.size w w' := fun w hv => (pub_ok w B1 hv hBs).mono fun e w' h => by
    unfold PuPost2 at h
    rw [hB1, bl_bsOf, hp] at h
    exact h
  have hn63 := puAll_le hp
  have hid : idOf 1 A1 n = cand (bl s) n := by
    unfold idOf cand
    rw [hA1, bl_bsOf, hk]
  have htx : ∀ w , VarsI w → Calls Tryd.prog 14 #[.agg #[.int .u8 1, .string A1, .int .i64 n]] w fun e w' => e = .returned (.tuple #[.string ByteArray.empty, .int .i64 2]) ∧ Below w.heap.size w w' := fun w  hv => Text_no w 1 A1 n hAs (by rw [hid]; exact hok)
  obtain ⟨W0, hW0⟩ : ∃ W0, W0 = w.alloc (.cells #[.int .u8 0, .string ByteArray.empty, .int .i64 0] 24) := ⟨_, rfl⟩
  have hb0 : Below w.heap.size w W0 := by rw [hW0]; exact (Below.refl _ w).alloc (Nat.le_refl _) _
  have hbx : W0.heap[w.heap.size]? = some (.cells #[.int .u8 0, .string ByteArray.empty, .int .i64 0] 24 (0, 0)) := by rw [hW0]; exact heap_new _ _
  have HV := Lib.hid (hv.below hb0)
  have Hfin := Lib.hid hfin
  have Hk := Lib.hid hk
  have Hcut := Lib.hid hcut
  have Hpu := Lib.hid hpu
  have HW0 := Lib.hid hW0
  have Htx := Lib.hid htx
  clear hfin hk hv hA1 hB1 hx hp hcut hpu hW0 htx hok hid
  go_enter Tryd.func16, Tryd.ntmps16
  go_wp2_with fail
  rw [show (w.alloc (.cells #[.int .u8 0, .string ⟨#[]⟩, .int .i64 0] 24)) = W0 from HW0.out.symm]
  refine (kind_at W0 s HV.out Hk.out).mono ?_
  rintro e w' ⟨rfl, rfl⟩
  go_wp2_with fail
  refine (Hcut.out W0).mono ?_
  rintro e w' ⟨⟨f, rfl⟩, nd, rfl⟩
  go_wp2_with fail
  have HV1 := Lib.hid (HV.out.below (Bl.drewN (Below.refl _ W0) nd))
  refine (Hpu.out (W0.drewN nd) HV1.out).mono ?_
  rintro e w2 ⟨rfl, hb2⟩
  have hl2 : w.heap.size < W0.heap.size := lt_row hbx
  have hl3 : w.heap.size < w2.heap.size := Nat.lt_of_lt_of_le hl2 hb2.size
  have hbx2 : w2.heap[w.heap.size]? = some (.cells #[.int .u8 0, .string ByteArray.empty, .int .i64 0] 24 (0, 0)) := (hb2.block _ hl2).trans hbx
  have HB2 := Lib.hid (hb0.trans ((Bl.call (Bl.drewN (Below.refl _ W0) nd) hb2).mono hb0.size))
  have HV2 := Lib.hid (HV1.out.below hb2)
  clear hb2 hbx
  go_wp2_with fail
  have HV3 := Lib.hid (HV2.out.below ((Below.refl _ w2).alloc (Nat.le_refl _) (.cells #[.int .u8 1, .string A1, .int .i64 n] 24)))
  refine (Htx.out _  HV3.out).mono ?_
  rintro e w3 ⟨rfl, hb3⟩
  have hbx3 : w3.heap[w.heap.size]? = some (.cells #[.int .u8 0, .string ByteArray.empty, .int .i64 0] 24 (0, 0)) := (hb3.block _ (by simp; omega)).trans ((Below.heap_alloc _ _ _ hl3).trans hbx2)
  have hby3 : w3.heap[w2.heap.size]? = some (.cells #[.int .u8 1, .string A1, .int .i64 n] 24 (0, 0)) := (hb3.block _ (by simp)).trans (heap_new _ _)
  have HB3 := Lib.hid (HB2.out.trans (((Below.refl w2.heap.size w2).alloc (Nat.le_refl _) (.cells #[.int .u8 1, .string A1, .int .i64 n] 24)).trans (hb3.mono (by simp)) |>.mono HB2.out.size))
  obtain ⟨hcell, hfroz⟩ := row_facts hbx3
  obtain ⟨hcell2, hfroz2⟩ := row_facts hby3
  have hl4 := lt_row hbx3
  clear hb3
  go_wp2
  obtain ⟨W4, hW4⟩ : ∃ W4, W4 = (((w3.setCell ⟨w.heap.size, 0, none⟩ (.int .u8 0)).setCell ⟨w.heap.size, 1, none⟩ (.string ByteArray.empty)).setCell ⟨w.heap.size, 2, none⟩ (.int .i64 0)) := ⟨_, rfl⟩
  have hb4 : W4.heap[w.heap.size]? = some (.cells #[.int .u8 0, .string ByteArray.empty, .int .i64 0] 24 (0, 0)) := by
    rw [hW4]
    exact heap_setCell_same (heap_setCell_same (heap_setCell_same hbx3 _) _) _
  have k0 : W4.cell? ⟨w.heap.size, 0, none⟩ = some (.int .u8 0) := cell_row hb4
  have k1 : W4.cell? ⟨w.heap.size, 1, none⟩ = some (.string ByteArray.empty) := cell_row hb4
  have k2 : W4.cell? ⟨w.heap.size, 2, none⟩ = some (.int .i64 0) := cell_row hb4
  have HB4 : Below w.heap.size w W4 := by
    rw [hW4]
    exact ((HB3.out.setCell (p := ⟨w.heap.size, 0, none⟩) (by simp) _).setCell (p := ⟨w.heap.size, 1, none⟩) (by simp) _).setCell (p := ⟨w.heap.size, 2, none⟩) (by simp) _
  first | rw [← hW4] | (change bodyPost _ _ _ _ _ (((w3.setCell ⟨w.heap.size, 0, none⟩ (.int .u8 0)).setCell ⟨w.heap.size, 1, none⟩ (.string ByteArray.empty)).setCell ⟨w.heap.size, 2, none⟩ (.int .i64 0)); rw [← hW4])
  clear hW4 hcell hcell2 hfroz hfroz2
  refine bodyPost_ret (v := .tuple #[.agg #[.int .u8 0, .string ByteArray.empty, .int .i64 0], .int .i64 6]) (by simp [results, Tryd.results16, go_sem, k0, k1, k2]) rfl ?_
  exact ⟨by rw [Hfin.out]; rfl, HB4⟩

set_option maxHeartbeats 2000000 in
theorem Parse_diff1 (w : World) (s : ByteArray) (hv : VarsI w) (hs : s.size ≤ 140737488351232) (hs0 : 1 ≤ s.size) (hk : kindOf (bl s) = 1) (n : Nat) (hp : puAll (cutB 58 ((bl s).drop 1)) = some n) (hok : okB (cand (bl s) n) = true) (hne : textOf (cand (bl s) n) ≠ bl s) : Calls Tryd.prog 16 #[.string s] w (ReadPost (bl s) w) := by
  have hfin := (parse_cand hp).trans (if_neg (fun h => hne h.2))
  have hx : bl (s.extract 1 s.size) = (bl s).drop 1 := by
    rw [bl_extract, List.take_of_length_le (by rw [List.length_drop, bl_length]; omega)]
  obtain ⟨A1, hA1⟩ : ∃ A1, A1 = bsOf (cutA 58 ((bl s).drop 1)) := ⟨_, rfl⟩
  obtain ⟨B1, hB1⟩ : ∃ B1, B1 = bsOf (cutB 58 ((bl s).drop 1)) := ⟨_, rfl⟩
  have hAs : A1.size ≤ maxLen := by
    have := cutA_length 58 ((bl s).drop 1)
    rw [List.length_drop, bl_length] at this
    rw [hA1, size_bsOf]
    unfold maxLen
    omega
  have hBs : B1.size ≤ 281474976710656 := by
    have := cutB_length 58 ((bl s).drop 1)
    rw [List.length_drop, bl_length] at this
    rw [hB1, size_bsOf]
    omega
  have hcut : ∀ w, Calls Tryd.prog 57 #[.string (s.extract 1 s.size), .string (bsOf [58])] w fun e w' => (∃ f : Bool, e = .returned (.tuple #[.string A1, .string B1, .bool f])) ∧ ∃ n, w' = w.drewN n := fun w => by
    have := cut_ok w (s.extract 1 s.size) (by rw [ByteArray.size_extract]; unfold maxLen; omega) 58
    rw [hx] at this
    rw [hA1, hB1]
    exact this
  have hpu : ∀ w, VarsI w → Calls Tryd.prog 58 #[.string B1, .int .i64 10, .int .i64 6] w fun e w' => e = .returned (.tuple #[.int .u64 n, .nilIface]) ∧ Below w.heap.size w w' := fun w hv => (pub_ok w B1 hv hBs).mono fun e w' h => by
    unfold PuPost2 at h
    rw [hB1, bl_bsOf, hp] at h
    exact h
  have hn63 := puAll_le hp
  have hid : idOf 1 A1 n = cand (bl s) n := by
    unfold idOf cand
    rw [hA1, bl_bsOf, hk]
  obtain ⟨T1, hT1⟩ : ∃ T1, T1 = bsOf (textOf (cand (bl s) n)) := ⟨_, rfl⟩
  have hTs : (T1.toList == s.toList) = false := str_ne (fun e => hne (by have h2 := congrArg bl e; rw [hT1, bl_bsOf] at h2; exact h2))
  have htx : ∀ w , VarsI w → Calls Tryd.prog 14 #[.agg #[.int .u8 1, .string A1, .int .i64 n]] w fun e w' => e = .returned (.tuple #[.string T1, .int .i64 0]) ∧ Below w.heap.size w w' := fun w  hv => (by have := Text_ok w 1 A1 n hv (by rw [hid]; exact hok); rw [hid, ← hT1] at this; exact this)
  obtain ⟨W0, hW0⟩ : ∃ W0, W0 = w.alloc (.cells #[.int .u8 0, .string ByteArray.empty, .int .i64 0] 24) := ⟨_, rfl⟩
  have hb0 : Below w.heap.size w W0 := by rw [hW0]; exact (Below.refl _ w).alloc (Nat.le_refl _) _
  have hbx : W0.heap[w.heap.size]? = some (.cells #[.int .u8 0, .string ByteArray.empty, .int .i64 0] 24 (0, 0)) := by rw [hW0]; exact heap_new _ _
  have HV := Lib.hid (hv.below hb0)
  have Hfin := Lib.hid hfin
  have Hk := Lib.hid hk
  have Hcut := Lib.hid hcut
  have Hpu := Lib.hid hpu
  have HW0 := Lib.hid hW0
  have Htx := Lib.hid htx
  clear hfin hk hv hA1 hB1 hx hp hcut hpu hW0 htx hok hid hT1 hne
  go_enter Tryd.func16, Tryd.ntmps16
  go_wp2_with fail
  rw [show (w.alloc (.cells #[.int .u8 0, .string ⟨#[]⟩, .int .i64 0] 24)) = W0 from HW0.out.symm]
  refine (kind_at W0 s HV.out Hk.out).mono ?_
  rintro e w' ⟨rfl, rfl⟩
  go_wp2_with fail
  refine (Hcut.out W0).mono ?_
  rintro e w' ⟨⟨f, rfl⟩, nd, rfl⟩
  go_wp2_with fail
  have HV1 := Lib.hid (HV.out.below (Bl.drewN (Below.refl _ W0) nd))
  refine (Hpu.out (W0.drewN nd) HV1.out).mono ?_
  rintro e w2 ⟨rfl, hb2⟩
  have hl2 : w.heap.size < W0.heap.size := lt_row hbx
  have hl3 : w.heap.size < w2.heap.size := Nat.lt_of_lt_of_le hl2 hb2.size
  have hbx2 : w2.heap[w.heap.size]? = some (.cells #[.int .u8 0, .string ByteArray.empty, .int .i64 0] 24 (0, 0)) := (hb2.block _ hl2).trans hbx
  have HB2 := Lib.hid (hb0.trans ((Bl.call (Bl.drewN (Below.refl _ W0) nd) hb2).mono hb0.size))
  have HV2 := Lib.hid (HV1.out.below hb2)
  clear hb2 hbx
  go_wp2_with fail
  have HV3 := Lib.hid (HV2.out.below ((Below.refl _ w2).alloc (Nat.le_refl _) (.cells #[.int .u8 1, .string A1, .int .i64 n] 24)))
  refine (Htx.out _  HV3.out).mono ?_
  rintro e w3 ⟨rfl, hb3⟩
  have hbx3 : w3.heap[w.heap.size]? = some (.cells #[.int .u8 0, .string ByteArray.empty, .int .i64 0] 24 (0, 0)) := (hb3.block _ (by simp; omega)).trans ((Below.heap_alloc _ _ _ hl3).trans hbx2)
  have hby3 : w3.heap[w2.heap.size]? = some (.cells #[.int .u8 1, .string A1, .int .i64 n] 24 (0, 0)) := (hb3.block _ (by simp)).trans (heap_new _ _)
  have HB3 := Lib.hid (HB2.out.trans (((Below.refl w2.heap.size w2).alloc (Nat.le_refl _) (.cells #[.int .u8 1, .string A1, .int .i64 n] 24)).trans (hb3.mono (by simp)) |>.mono HB2.out.size))
  obtain ⟨hcell, hfroz⟩ := row_facts hbx3
  obtain ⟨hcell2, hfroz2⟩ := row_facts hby3
  have hl4 := lt_row hbx3
  clear hb3
  go_wp2
  obtain ⟨W4, hW4⟩ : ∃ W4, W4 = (((w3.setCell ⟨w.heap.size, 0, none⟩ (.int .u8 0)).setCell ⟨w.heap.size, 1, none⟩ (.string ByteArray.empty)).setCell ⟨w.heap.size, 2, none⟩ (.int .i64 0)) := ⟨_, rfl⟩
  have hb4 : W4.heap[w.heap.size]? = some (.cells #[.int .u8 0, .string ByteArray.empty, .int .i64 0] 24 (0, 0)) := by
    rw [hW4]
    exact heap_setCell_same (heap_setCell_same (heap_setCell_same hbx3 _) _) _
  have k0 : W4.cell? ⟨w.heap.size, 0, none⟩ = some (.int .u8 0) := cell_row hb4
  have k1 : W4.cell? ⟨w.heap.size, 1, none⟩ = some (.string ByteArray.empty) := cell_row hb4
  have k2 : W4.cell? ⟨w.heap.size, 2, none⟩ = some (.int .i64 0) := cell_row hb4
  have HB4 : Below w.heap.size w W4 := by
    rw [hW4]
    exact ((HB3.out.setCell (p := ⟨w.heap.size, 0, none⟩) (by simp) _).setCell (p := ⟨w.heap.size, 1, none⟩) (by simp) _).setCell (p := ⟨w.heap.size, 2, none⟩) (by simp) _
  first | rw [← hW4] | (change bodyPost _ _ _ _ _ (((w3.setCell ⟨w.heap.size, 0, none⟩ (.int .u8 0)).setCell ⟨w.heap.size, 1, none⟩ (.string ByteArray.empty)).setCell ⟨w.heap.size, 2, none⟩ (.int .i64 0)); rw [← hW4])
  clear hW4 hcell hcell2 hfroz hfroz2
  refine bodyPost_ret (v := .tuple #[.agg #[.int .u8 0, .string ByteArray.empty, .int .i64 0], .int .i64 6]) (by simp [results, Tryd.results16, go_sem, k0, k1, k2]) rfl ?_
  exact ⟨by rw [Hfin.out]; rfl, HB4⟩

set_option maxHeartbeats 2000000 in
theorem Parse_good1 (w : World) (s : ByteArray) (hv : VarsI w) (hs : s.size ≤ 140737488351232) (hs0 : 1 ≤ s.size) (hk : kindOf (bl s) = 1) (n : Nat) (hp : puAll (cutB 58 ((bl s).drop 1)) = some n) (hok : okB (cand (bl s) n) = true) (heq : textOf (cand (bl s) n) = bl s) : Calls Tryd.prog 16 #[.string s] w (ReadPost (bl s) w) := by
  have hfin := (parse_cand hp).trans (if_pos ⟨hok, heq⟩)
  have hx : bl (s.extract 1 s.size) = (bl s).drop 1 := by
    rw [bl_extract, List.take_of_length_le (by rw [List.length_drop, bl_length]; omega)]
  obtain ⟨A1, hA1⟩ : ∃ A1, A1 = bsOf (cutA 58 ((bl s).drop 1)) := ⟨_, rfl⟩
  obtain ⟨B1, hB1⟩ : ∃ B1, B1 = bsOf (cutB 58 ((bl s).drop 1)) := ⟨_, rfl⟩
  have hAs : A1.size ≤ maxLen := by
    have := cutA_length 58 ((bl s).drop 1)
    rw [List.length_drop, bl_length] at this
    rw [hA1, size_bsOf]
    unfold maxLen
    omega
  have hBs : B1.size ≤ 281474976710656 := by
    have := cutB_length 58 ((bl s).drop 1)
    rw [List.length_drop, bl_length] at this
    rw [hB1, size_bsOf]
    omega
  have hcut : ∀ w, Calls Tryd.prog 57 #[.string (s.extract 1 s.size), .string (bsOf [58])] w fun e w' => (∃ f : Bool, e = .returned (.tuple #[.string A1, .string B1, .bool f])) ∧ ∃ n, w' = w.drewN n := fun w => by
    have := cut_ok w (s.extract 1 s.size) (by rw [ByteArray.size_extract]; unfold maxLen; omega) 58
    rw [hx] at this
    rw [hA1, hB1]
    exact this
  have hpu : ∀ w, VarsI w → Calls Tryd.prog 58 #[.string B1, .int .i64 10, .int .i64 6] w fun e w' => e = .returned (.tuple #[.int .u64 n, .nilIface]) ∧ Below w.heap.size w w' := fun w hv => (pub_ok w B1 hv hBs).mono fun e w' h => by
    unfold PuPost2 at h
    rw [hB1, bl_bsOf, hp] at h
    exact h
  have hn63 := puAll_le hp
  have hid : idOf 1 A1 n = cand (bl s) n := by
    unfold idOf cand
    rw [hA1, bl_bsOf, hk]
  have htx : ∀ w , VarsI w → Calls Tryd.prog 14 #[.agg #[.int .u8 1, .string A1, .int .i64 n]] w fun e w' => e = .returned (.tuple #[.string s, .int .i64 0]) ∧ Below w.heap.size w w' := fun w  hv => (by have := Text_ok w 1 A1 n hv (by rw [hid]; exact hok); rw [hid, heq, bsOf_bl] at this; exact this)
  have hres : readV (some (cand (bl s) n)) = .tuple #[.agg #[.int .u8 1, .string A1, .int .i64 n], .int .i64 0] := by
    unfold readV
    simp only [cand]
    rw [hA1, hk]
  have Hres := Lib.hid hres
  clear hres
  obtain ⟨W0, hW0⟩ : ∃ W0, W0 = w.alloc (.cells #[.int .u8 0, .string ByteArray.empty, .int .i64 0] 24) := ⟨_, rfl⟩
  have hb0 : Below w.heap.size w W0 := by rw [hW0]; exact (Below.refl _ w).alloc (Nat.le_refl _) _
  have hbx : W0.heap[w.heap.size]? = some (.cells #[.int .u8 0, .string ByteArray.empty, .int .i64 0] 24 (0, 0)) := by rw [hW0]; exact heap_new _ _
  have HV := Lib.hid (hv.below hb0)
  have Hfin := Lib.hid hfin
  have Hk := Lib.hid hk
  have Hcut := Lib.hid hcut
  have Hpu := Lib.hid hpu
  have HW0 := Lib.hid hW0
  have Htx := Lib.hid htx
  clear hfin hk hv hA1 hB1 hx hp hcut hpu hW0 htx hok hid heq
  go_enter Tryd.func16, Tryd.ntmps16
  go_wp2_with fail
  rw [show (w.alloc (.cells #[.int .u8 0, .string ⟨#[]⟩, .int .i64 0] 24)) = W0 from HW0.out.symm]
  refine (kind_at W0 s HV.out Hk.out).mono ?_
  rintro e w' ⟨rfl, rfl⟩
  go_wp2_with fail
  refine (Hcut.out W0).mono ?_
  rintro e w' ⟨⟨f, rfl⟩, nd, rfl⟩
  go_wp2_with fail
  have HV1 := Lib.hid (HV.out.below (Bl.drewN (Below.refl _ W0) nd))
  refine (Hpu.out (W0.drewN nd) HV1.out).mono ?_
  rintro e w2 ⟨rfl, hb2⟩
  have hl2 : w.heap.size < W0.heap.size := lt_row hbx
  have hl3 : w.heap.size < w2.heap.size := Nat.lt_of_lt_of_le hl2 hb2.size
  have hbx2 : w2.heap[w.heap.size]? = some (.cells #[.int .u8 0, .string ByteArray.empty, .int .i64 0] 24 (0, 0)) := (hb2.block _ hl2).trans hbx
  have HB2 := Lib.hid (hb0.trans ((Bl.call (Bl.drewN (Below.refl _ W0) nd) hb2).mono hb0.size))
  have HV2 := Lib.hid (HV1.out.below hb2)
  clear hb2 hbx
  go_wp2_with fail
  have HV3 := Lib.hid (HV2.out.below ((Below.refl _ w2).alloc (Nat.le_refl _) (.cells #[.int .u8 1, .string A1, .int .i64 n] 24)))
  refine (Htx.out _  HV3.out).mono ?_
  rintro e w3 ⟨rfl, hb3⟩
  have hbx3 : w3.heap[w.heap.size]? = some (.cells #[.int .u8 0, .string ByteArray.empty, .int .i64 0] 24 (0, 0)) := (hb3.block _ (by simp; omega)).trans ((Below.heap_alloc _ _ _ hl3).trans hbx2)
  have hby3 : w3.heap[w2.heap.size]? = some (.cells #[.int .u8 1, .string A1, .int .i64 n] 24 (0, 0)) := (hb3.block _ (by simp)).trans (heap_new _ _)
  have HB3 := Lib.hid (HB2.out.trans (((Below.refl w2.heap.size w2).alloc (Nat.le_refl _) (.cells #[.int .u8 1, .string A1, .int .i64 n] 24)).trans (hb3.mono (by simp)) |>.mono HB2.out.size))
  obtain ⟨hcell, hfroz⟩ := row_facts hbx3
  obtain ⟨hcell2, hfroz2⟩ := row_facts hby3
  have hl4 := lt_row hbx3
  clear hb3
  go_wp2
  obtain ⟨W4, hW4⟩ : ∃ W4, W4 = (((w3.setCell ⟨w.heap.size, 0, none⟩ (.int .u8 1)).setCell ⟨w.heap.size, 1, none⟩ (.string A1)).setCell ⟨w.heap.size, 2, none⟩ (.int .i64 n)) := ⟨_, rfl⟩
  have hb4 : W4.heap[w.heap.size]? = some (.cells #[.int .u8 1, .string A1, .int .i64 n] 24 (0, 0)) := by
    rw [hW4]
    exact heap_setCell_same (heap_setCell_same (heap_setCell_same hbx3 _) _) _
  have k0 : W4.cell? ⟨w.heap.size, 0, none⟩ = some (.int .u8 1) := cell_row hb4
  have k1 : W4.cell? ⟨w.heap.size, 1, none⟩ = some (.string A1) := cell_row hb4
  have k2 : W4.cell? ⟨w.heap.size, 2, none⟩ = some (.int .i64 n) := cell_row hb4
  have HB4 : Below w.heap.size w W4 := by
    rw [hW4]
    exact ((HB3.out.setCell (p := ⟨w.heap.size, 0, none⟩) (by simp) _).setCell (p := ⟨w.heap.size, 1, none⟩) (by simp) _).setCell (p := ⟨w.heap.size, 2, none⟩) (by simp) _
  first | rw [← hW4] | (change bodyPost _ _ _ _ _ (((w3.setCell ⟨w.heap.size, 0, none⟩ (.int .u8 1)).setCell ⟨w.heap.size, 1, none⟩ (.string A1)).setCell ⟨w.heap.size, 2, none⟩ (.int .i64 n)); rw [← hW4])
  clear hW4 hcell hcell2 hfroz hfroz2
  refine bodyPost_ret (v := .tuple #[.agg #[.int .u8 1, .string A1, .int .i64 n], .int .i64 0]) (by simp [results, Tryd.results16, go_sem, k0, k1, k2]) rfl ?_
  exact ⟨by rw [Hfin.out]; rw [Hres.out], HB4⟩

set_option maxHeartbeats 2000000 in
theorem Parse_err2 (w : World) (s : ByteArray) (hv : VarsI w) (hs : s.size ≤ 140737488351232) (hs0 : 1 ≤ s.size) (hk : kindOf (bl s) = 2) (hp : puAll (cutB 58 ((bl s).drop 1)) = none) : Calls Tryd.prog 16 #[.string s] w (ReadPost (bl s) w) := by
  have hfin := parse_no_number hp
  have hx : bl (s.extract 1 s.size) = (bl s).drop 1 := by
    rw [bl_extract, List.take_of_length_le (by rw [List.length_drop, bl_length]; omega)]
  obtain ⟨A1, hA1⟩ : ∃ A1, A1 = bsOf (cutA 58 ((bl s).drop 1)) := ⟨_, rfl⟩
  obtain ⟨B1, hB1⟩ : ∃ B1, B1 = bsOf (cutB 58 ((bl s).drop 1)) := ⟨_, rfl⟩
  have hAs : A1.size ≤ maxLen := by
    have := cutA_length 58 ((bl s).drop 1)
    rw [List.length_drop, bl_length] at this
    rw [hA1, size_bsOf]
    unfold maxLen
    omega
  have hBs : B1.size ≤ 281474976710656 := by
    have := cutB_length 58 ((bl s).drop 1)
    rw [List.length_drop, bl_length] at this
    rw [hB1, size_bsOf]
    omega
  have hcut : ∀ w, Calls Tryd.prog 57 #[.string (s.extract 1 s.size), .string (bsOf [58])] w fun e w' => (∃ f : Bool, e = .returned (.tuple #[.string A1, .string B1, .bool f])) ∧ ∃ n, w' = w.drewN n := fun w => by
    have := cut_ok w (s.extract 1 s.size) (by rw [ByteArray.size_extract]; unfold maxLen; omega) 58
    rw [hx] at this
    rw [hA1, hB1]
    exact this
  have hpu : ∀ w, VarsI w → Calls Tryd.prog 58 #[.string B1, .int .i64 10, .int .i64 6] w fun e w' => (∃ (m : Int) (T : TypeId) (v : Value), e = .returned (.tuple #[.int .u64 m, .iface T v])) ∧ Below w.heap.size w w' := fun w hv => (pub_ok w B1 hv hBs).mono fun e w' h => by
    unfold PuPost2 at h
    rw [hB1, bl_bsOf, hp] at h
    exact h
  have htx : ∀ w (sv : Int), VarsI w → Calls Tryd.prog 14 #[.agg #[.int .u8 2, .string A1, .int .i64 sv]] w fun e w' => AnyText w e w' := fun w sv hv => Text_any w 2 A1 sv hv hAs
  obtain ⟨W0, hW0⟩ : ∃ W0, W0 = w.alloc (.cells #[.int .u8 0, .string ByteArray.empty, .int .i64 0] 24) := ⟨_, rfl⟩
  have hb0 : Below w.heap.size w W0 := by rw [hW0]; exact (Below.refl _ w).alloc (Nat.le_refl _) _
  have hbx : W0.heap[w.heap.size]? = some (.cells #[.int .u8 0, .string ByteArray.empty, .int .i64 0] 24 (0, 0)) := by rw [hW0]; exact heap_new _ _
  have HV := Lib.hid (hv.below hb0)
  have Hfin := Lib.hid hfin
  have Hk := Lib.hid hk
  have Hcut := Lib.hid hcut
  have Hpu := Lib.hid hpu
  have HW0 := Lib.hid hW0
  have Htx := Lib.hid htx
  clear hfin hk hv hA1 hB1 hx hp hcut hpu hW0 htx
  go_enter Tryd.func16, Tryd.ntmps16
  go_wp2_with fail
  rw [show (w.alloc (.cells #[.int .u8 0, .string ⟨#[]⟩, .int .i64 0] 24)) = W0 from HW0.out.symm]
  refine (kind_at W0 s HV.out Hk.out).mono ?_
  rintro e w' ⟨rfl, rfl⟩
  go_wp2_with fail
  refine (Hcut.out W0).mono ?_
  rintro e w' ⟨⟨f, rfl⟩, nd, rfl⟩
  go_wp2_with fail
  have HV1 := Lib.hid (HV.out.below (Bl.drewN (Below.refl _ W0) nd))
  refine (Hpu.out (W0.drewN nd) HV1.out).mono ?_
  rintro e w2 ⟨⟨m, T, v, rfl⟩, hb2⟩
  have hl2 : w.heap.size < W0.heap.size := lt_row hbx
  have hl3 : w.heap.size < w2.heap.size := Nat.lt_of_lt_of_le hl2 hb2.size
  have hbx2 : w2.heap[w.heap.size]? = some (.cells #[.int .u8 0, .string ByteArray.empty, .int .i64 0] 24 (0, 0)) := (hb2.block _ hl2).trans hbx
  have HB2 := Lib.hid (hb0.trans ((Bl.call (Bl.drewN (Below.refl _ W0) nd) hb2).mono hb0.size))
  have HV2 := Lib.hid (HV1.out.below hb2)
  clear hb2 hbx
  go_wp2_with fail
  have HV3 := Lib.hid (HV2.out.below ((Below.refl _ w2).alloc (Nat.le_refl _) (.cells #[.int .u8 2, .string A1, .int .i64 (wrap64 m)] 24)))
  refine (Htx.out _ _ HV3.out).mono ?_
  rintro e w3 ⟨⟨t3, y3, rfl⟩, hb3⟩
  have hbx3 : w3.heap[w.heap.size]? = some (.cells #[.int .u8 0, .string ByteArray.empty, .int .i64 0] 24 (0, 0)) := (hb3.block _ (by simp; omega)).trans ((Below.heap_alloc _ _ _ hl3).trans hbx2)
  have hby3 : w3.heap[w2.heap.size]? = some (.cells #[.int .u8 2, .string A1, .int .i64 (wrap64 m)] 24 (0, 0)) := (hb3.block _ (by simp)).trans (heap_new _ _)
  have HB3 := Lib.hid (HB2.out.trans (((Below.refl w2.heap.size w2).alloc (Nat.le_refl _) (.cells #[.int .u8 2, .string A1, .int .i64 (wrap64 m)] 24)).trans (hb3.mono (by simp)) |>.mono HB2.out.size))
  obtain ⟨hcell, hfroz⟩ := row_facts hbx3
  obtain ⟨hcell2, hfroz2⟩ := row_facts hby3
  have hl4 := lt_row hbx3
  clear hb3
  go_wp2
  obtain ⟨W4, hW4⟩ : ∃ W4, W4 = (((w3.setCell ⟨w.heap.size, 0, none⟩ (.int .u8 0)).setCell ⟨w.heap.size, 1, none⟩ (.string ByteArray.empty)).setCell ⟨w.heap.size, 2, none⟩ (.int .i64 0)) := ⟨_, rfl⟩
  have hb4 : W4.heap[w.heap.size]? = some (.cells #[.int .u8 0, .string ByteArray.empty, .int .i64 0] 24 (0, 0)) := by
    rw [hW4]
    exact heap_setCell_same (heap_setCell_same (heap_setCell_same hbx3 _) _) _
  have k0 : W4.cell? ⟨w.heap.size, 0, none⟩ = some (.int .u8 0) := cell_row hb4
  have k1 : W4.cell? ⟨w.heap.size, 1, none⟩ = some (.string ByteArray.empty) := cell_row hb4
  have k2 : W4.cell? ⟨w.heap.size, 2, none⟩ = some (.int .i64 0) := cell_row hb4
  have HB4 : Below w.heap.size w W4 := by
    rw [hW4]
    exact ((HB3.out.setCell (p := ⟨w.heap.size, 0, none⟩) (by simp) _).setCell (p := ⟨w.heap.size, 1, none⟩) (by simp) _).setCell (p := ⟨w.heap.size, 2, none⟩) (by simp) _
  first | rw [← hW4] | (change bodyPost _ _ _ _ _ (((w3.setCell ⟨w.heap.size, 0, none⟩ (.int .u8 0)).setCell ⟨w.heap.size, 1, none⟩ (.string ByteArray.empty)).setCell ⟨w.heap.size, 2, none⟩ (.int .i64 0)); rw [← hW4])
  clear hW4 hcell hcell2 hfroz hfroz2
  refine bodyPost_ret (v := .tuple #[.agg #[.int .u8 0, .string ByteArray.empty, .int .i64 0], .int .i64 6]) (by simp [results, Tryd.results16, go_sem, k0, k1, k2]) rfl ?_
  exact ⟨by rw [Hfin.out]; rfl, HB4⟩

set_option maxHeartbeats 2000000 in
theorem Parse_bad2 (w : World) (s : ByteArray) (hv : VarsI w) (hs : s.size ≤ 140737488351232) (hs0 : 1 ≤ s.size) (hk : kindOf (bl s) = 2) (n : Nat) (hp : puAll (cutB 58 ((bl s).drop 1)) = some n) (hok : okB (cand (bl s) n) = false) : Calls Tryd.prog 16 #[.string s] w (ReadPost (bl s) w) := by
  have hfin := (parse_cand hp).trans (if_neg (fun h => by rw [hok] at h; cases h.1))
  have hx : bl (s.extract 1 s.size) = (bl s).drop 1 := by
    rw [bl_extract, List.take_of_length_le (by rw [List.length_drop, bl_length]; omega)]
  obtain ⟨A1, hA1⟩ : ∃ A1, A1 = bsOf (cutA 58 ((bl s).drop 1)) := ⟨_, rfl⟩
  obtain ⟨B1, hB1⟩ : ∃ B1, B1 = bsOf (cutB 58 ((bl s).drop 1)) := ⟨_, rfl⟩
  have hAs : A1.size ≤ maxLen := by
    have := cutA_length 58 ((bl s).drop 1)
    rw [List.length_drop, bl_length] at this
    rw [hA1, size_bsOf]
    unfold maxLen
    omega
  have hBs : B1.size ≤ 281474976710656 := by
    have := cutB_length 58 ((bl s).drop 1)
    rw [List.length_drop, bl_length] at this
    rw [hB1, size_bsOf]
    omega
  have hcut : ∀ w, Calls Tryd.prog 57 #[.string (s.extract 1 s.size), .string (bsOf [58])] w fun e w' => (∃ f : Bool, e = .returned (.tuple #[.string A1, .string B1, .bool f])) ∧ ∃ n, w' = w.drewN n := fun w => by
    have := cut_ok w (s.extract 1 s.size) (by rw [ByteArray.size_extract]; unfold maxLen; omega) 58
    rw [hx] at this
    rw [hA1, hB1]
    exact this
  have hpu : ∀ w, VarsI w → Calls Tryd.prog 58 #[.string B1, .int .i64 10, .int .i64 6] w fun e w' => e = .returned (.tuple #[.int .u64 n, .nilIface]) ∧ Below w.heap.size w w' := fun w hv => (pub_ok w B1 hv hBs).mono fun e w' h => by
    unfold PuPost2 at h
    rw [hB1, bl_bsOf, hp] at h
    exact h
  have hn63 := puAll_le hp
  have hid : idOf 2 A1 n = cand (bl s) n := by
    unfold idOf cand
    rw [hA1, bl_bsOf, hk]
  have htx : ∀ w , VarsI w → Calls Tryd.prog 14 #[.agg #[.int .u8 2, .string A1, .int .i64 n]] w fun e w' => e = .returned (.tuple #[.string ByteArray.empty, .int .i64 2]) ∧ Below w.heap.size w w' := fun w  hv => Text_no w 2 A1 n hAs (by rw [hid]; exact hok)
  obtain ⟨W0, hW0⟩ : ∃ W0, W0 = w.alloc (.cells #[.int .u8 0, .string ByteArray.empty, .int .i64 0] 24) := ⟨_, rfl⟩
  have hb0 : Below w.heap.size w W0 := by rw [hW0]; exact (Below.refl _ w).alloc (Nat.le_refl _) _
  have hbx : W0.heap[w.heap.size]? = some (.cells #[.int .u8 0, .string ByteArray.empty, .int .i64 0] 24 (0, 0)) := by rw [hW0]; exact heap_new _ _
  have HV := Lib.hid (hv.below hb0)
  have Hfin := Lib.hid hfin
  have Hk := Lib.hid hk
  have Hcut := Lib.hid hcut
  have Hpu := Lib.hid hpu
  have HW0 := Lib.hid hW0
  have Htx := Lib.hid htx
  clear hfin hk hv hA1 hB1 hx hp hcut hpu hW0 htx hok hid
  go_enter Tryd.func16, Tryd.ntmps16
  go_wp2_with fail
  rw [show (w.alloc (.cells #[.int .u8 0, .string ⟨#[]⟩, .int .i64 0] 24)) = W0 from HW0.out.symm]
  refine (kind_at W0 s HV.out Hk.out).mono ?_
  rintro e w' ⟨rfl, rfl⟩
  go_wp2_with fail
  refine (Hcut.out W0).mono ?_
  rintro e w' ⟨⟨f, rfl⟩, nd, rfl⟩
  go_wp2_with fail
  have HV1 := Lib.hid (HV.out.below (Bl.drewN (Below.refl _ W0) nd))
  refine (Hpu.out (W0.drewN nd) HV1.out).mono ?_
  rintro e w2 ⟨rfl, hb2⟩
  have hl2 : w.heap.size < W0.heap.size := lt_row hbx
  have hl3 : w.heap.size < w2.heap.size := Nat.lt_of_lt_of_le hl2 hb2.size
  have hbx2 : w2.heap[w.heap.size]? = some (.cells #[.int .u8 0, .string ByteArray.empty, .int .i64 0] 24 (0, 0)) := (hb2.block _ hl2).trans hbx
  have HB2 := Lib.hid (hb0.trans ((Bl.call (Bl.drewN (Below.refl _ W0) nd) hb2).mono hb0.size))
  have HV2 := Lib.hid (HV1.out.below hb2)
  clear hb2 hbx
  go_wp2_with fail
  have HV3 := Lib.hid (HV2.out.below ((Below.refl _ w2).alloc (Nat.le_refl _) (.cells #[.int .u8 2, .string A1, .int .i64 n] 24)))
  refine (Htx.out _  HV3.out).mono ?_
  rintro e w3 ⟨rfl, hb3⟩
  have hbx3 : w3.heap[w.heap.size]? = some (.cells #[.int .u8 0, .string ByteArray.empty, .int .i64 0] 24 (0, 0)) := (hb3.block _ (by simp; omega)).trans ((Below.heap_alloc _ _ _ hl3).trans hbx2)
  have hby3 : w3.heap[w2.heap.size]? = some (.cells #[.int .u8 2, .string A1, .int .i64 n] 24 (0, 0)) := (hb3.block _ (by simp)).trans (heap_new _ _)
  have HB3 := Lib.hid (HB2.out.trans (((Below.refl w2.heap.size w2).alloc (Nat.le_refl _) (.cells #[.int .u8 2, .string A1, .int .i64 n] 24)).trans (hb3.mono (by simp)) |>.mono HB2.out.size))
  obtain ⟨hcell, hfroz⟩ := row_facts hbx3
  obtain ⟨hcell2, hfroz2⟩ := row_facts hby3
  have hl4 := lt_row hbx3
  clear hb3
  go_wp2
  obtain ⟨W4, hW4⟩ : ∃ W4, W4 = (((w3.setCell ⟨w.heap.size, 0, none⟩ (.int .u8 0)).setCell ⟨w.heap.size, 1, none⟩ (.string ByteArray.empty)).setCell ⟨w.heap.size, 2, none⟩ (.int .i64 0)) := ⟨_, rfl⟩
  have hb4 : W4.heap[w.heap.size]? = some (.cells #[.int .u8 0, .string ByteArray.empty, .int .i64 0] 24 (0, 0)) := by
    rw [hW4]
    exact heap_setCell_same (heap_setCell_same (heap_setCell_same hbx3 _) _) _
  have k0 : W4.cell? ⟨w.heap.size, 0, none⟩ = some (.int .u8 0) := cell_row hb4
  have k1 : W4.cell? ⟨w.heap.size, 1, none⟩ = some (.string ByteArray.empty) := cell_row hb4
  have k2 : W4.cell? ⟨w.heap.size, 2, none⟩ = some (.int .i64 0) := cell_row hb4
  have HB4 : Below w.heap.size w W4 := by
    rw [hW4]
    exact ((HB3.out.setCell (p := ⟨w.heap.size, 0, none⟩) (by simp) _).setCell (p := ⟨w.heap.size, 1, none⟩) (by simp) _).setCell (p := ⟨w.heap.size, 2, none⟩) (by simp) _
  first | rw [← hW4] | (change bodyPost _ _ _ _ _ (((w3.setCell ⟨w.heap.size, 0, none⟩ (.int .u8 0)).setCell ⟨w.heap.size, 1, none⟩ (.string ByteArray.empty)).setCell ⟨w.heap.size, 2, none⟩ (.int .i64 0)); rw [← hW4])
  clear hW4 hcell hcell2 hfroz hfroz2
  refine bodyPost_ret (v := .tuple #[.agg #[.int .u8 0, .string ByteArray.empty, .int .i64 0], .int .i64 6]) (by simp [results, Tryd.results16, go_sem, k0, k1, k2]) rfl ?_
  exact ⟨by rw [Hfin.out]; rfl, HB4⟩

set_option maxHeartbeats 2000000 in
theorem Parse_diff2 (w : World) (s : ByteArray) (hv : VarsI w) (hs : s.size ≤ 140737488351232) (hs0 : 1 ≤ s.size) (hk : kindOf (bl s) = 2) (n : Nat) (hp : puAll (cutB 58 ((bl s).drop 1)) = some n) (hok : okB (cand (bl s) n) = true) (hne : textOf (cand (bl s) n) ≠ bl s) : Calls Tryd.prog 16 #[.string s] w (ReadPost (bl s) w) := by
  have hfin := (parse_cand hp).trans (if_neg (fun h => hne h.2))
  have hx : bl (s.extract 1 s.size) = (bl s).drop 1 := by
    rw [bl_extract, List.take_of_length_le (by rw [List.length_drop, bl_length]; omega)]
  obtain ⟨A1, hA1⟩ : ∃ A1, A1 = bsOf (cutA 58 ((bl s).drop 1)) := ⟨_, rfl⟩
  obtain ⟨B1, hB1⟩ : ∃ B1, B1 = bsOf (cutB 58 ((bl s).drop 1)) := ⟨_, rfl⟩
  have hAs : A1.size ≤ maxLen := by
    have := cutA_length 58 ((bl s).drop 1)
    rw [List.length_drop, bl_length] at this
    rw [hA1, size_bsOf]
    unfold maxLen
    omega
  have hBs : B1.size ≤ 281474976710656 := by
    have := cutB_length 58 ((bl s).drop 1)
    rw [List.length_drop, bl_length] at this
    rw [hB1, size_bsOf]
    omega
  have hcut : ∀ w, Calls Tryd.prog 57 #[.string (s.extract 1 s.size), .string (bsOf [58])] w fun e w' => (∃ f : Bool, e = .returned (.tuple #[.string A1, .string B1, .bool f])) ∧ ∃ n, w' = w.drewN n := fun w => by
    have := cut_ok w (s.extract 1 s.size) (by rw [ByteArray.size_extract]; unfold maxLen; omega) 58
    rw [hx] at this
    rw [hA1, hB1]
    exact this
  have hpu : ∀ w, VarsI w → Calls Tryd.prog 58 #[.string B1, .int .i64 10, .int .i64 6] w fun e w' => e = .returned (.tuple #[.int .u64 n, .nilIface]) ∧ Below w.heap.size w w' := fun w hv => (pub_ok w B1 hv hBs).mono fun e w' h => by
    unfold PuPost2 at h
    rw [hB1, bl_bsOf, hp] at h
    exact h
  have hn63 := puAll_le hp
  have hid : idOf 2 A1 n = cand (bl s) n := by
    unfold idOf cand
    rw [hA1, bl_bsOf, hk]
  obtain ⟨T1, hT1⟩ : ∃ T1, T1 = bsOf (textOf (cand (bl s) n)) := ⟨_, rfl⟩
  have hTs : (T1.toList == s.toList) = false := str_ne (fun e => hne (by have h2 := congrArg bl e; rw [hT1, bl_bsOf] at h2; exact h2))
  have htx : ∀ w , VarsI w → Calls Tryd.prog 14 #[.agg #[.int .u8 2, .string A1, .int .i64 n]] w fun e w' => e = .returned (.tuple #[.string T1, .int .i64 0]) ∧ Below w.heap.size w w' := fun w  hv => (by have := Text_ok w 2 A1 n hv (by rw [hid]; exact hok); rw [hid, ← hT1] at this; exact this)
  obtain ⟨W0, hW0⟩ : ∃ W0, W0 = w.alloc (.cells #[.int .u8 0, .string ByteArray.empty, .int .i64 0] 24) := ⟨_, rfl⟩
  have hb0 : Below w.heap.size w W0 := by rw [hW0]; exact (Below.refl _ w).alloc (Nat.le_refl _) _
  have hbx : W0.heap[w.heap.size]? = some (.cells #[.int .u8 0, .string ByteArray.empty, .int .i64 0] 24 (0, 0)) := by rw [hW0]; exact heap_new _ _
  have HV := Lib.hid (hv.below hb0)
  have Hfin := Lib.hid hfin
  have Hk := Lib.hid hk
  have Hcut := Lib.hid hcut
  have Hpu := Lib.hid hpu
  have HW0 := Lib.hid hW0
  have Htx := Lib.hid htx
  clear hfin hk hv hA1 hB1 hx hp hcut hpu hW0 htx hok hid hT1 hne
  go_enter Tryd.func16, Tryd.ntmps16
  go_wp2_with fail
  rw [show (w.alloc (.cells #[.int .u8 0, .string ⟨#[]⟩, .int .i64 0] 24)) = W0 from HW0.out.symm]
  refine (kind_at W0 s HV.out Hk.out).mono ?_
  rintro e w' ⟨rfl, rfl⟩
  go_wp2_with fail
  refine (Hcut.out W0).mono ?_
  rintro e w' ⟨⟨f, rfl⟩, nd, rfl⟩
  go_wp2_with fail
  have HV1 := Lib.hid (HV.out.below (Bl.drewN (Below.refl _ W0) nd))
  refine (Hpu.out (W0.drewN nd) HV1.out).mono ?_
  rintro e w2 ⟨rfl, hb2⟩
  have hl2 : w.heap.size < W0.heap.size := lt_row hbx
  have hl3 : w.heap.size < w2.heap.size := Nat.lt_of_lt_of_le hl2 hb2.size
  have hbx2 : w2.heap[w.heap.size]? = some (.cells #[.int .u8 0, .string ByteArray.empty, .int .i64 0] 24 (0, 0)) := (hb2.block _ hl2).trans hbx
  have HB2 := Lib.hid (hb0.trans ((Bl.call (Bl.drewN (Below.refl _ W0) nd) hb2).mono hb0.size))
  have HV2 := Lib.hid (HV1.out.below hb2)
  clear hb2 hbx
  go_wp2_with fail
  have HV3 := Lib.hid (HV2.out.below ((Below.refl _ w2).alloc (Nat.le_refl _) (.cells #[.int .u8 2, .string A1, .int .i64 n] 24)))
  refine (Htx.out _  HV3.out).mono ?_
  rintro e w3 ⟨rfl, hb3⟩
  have hbx3 : w3.heap[w.heap.size]? = some (.cells #[.int .u8 0, .string ByteArray.empty, .int .i64 0] 24 (0, 0)) := (hb3.block _ (by simp; omega)).trans ((Below.heap_alloc _ _ _ hl3).trans hbx2)
  have hby3 : w3.heap[w2.heap.size]? = some (.cells #[.int .u8 2, .string A1, .int .i64 n] 24 (0, 0)) := (hb3.block _ (by simp)).trans (heap_new _ _)
  have HB3 := Lib.hid (HB2.out.trans (((Below.refl w2.heap.size w2).alloc (Nat.le_refl _) (.cells #[.int .u8 2, .string A1, .int .i64 n] 24)).trans (hb3.mono (by simp)) |>.mono HB2.out.size))
  obtain ⟨hcell, hfroz⟩ := row_facts hbx3
  obtain ⟨hcell2, hfroz2⟩ := row_facts hby3
  have hl4 := lt_row hbx3
  clear hb3
  go_wp2
  obtain ⟨W4, hW4⟩ : ∃ W4, W4 = (((w3.setCell ⟨w.heap.size, 0, none⟩ (.int .u8 0)).setCell ⟨w.heap.size, 1, none⟩ (.string ByteArray.empty)).setCell ⟨w.heap.size, 2, none⟩ (.int .i64 0)) := ⟨_, rfl⟩
  have hb4 : W4.heap[w.heap.size]? = some (.cells #[.int .u8 0, .string ByteArray.empty, .int .i64 0] 24 (0, 0)) := by
    rw [hW4]
    exact heap_setCell_same (heap_setCell_same (heap_setCell_same hbx3 _) _) _
  have k0 : W4.cell? ⟨w.heap.size, 0, none⟩ = some (.int .u8 0) := cell_row hb4
  have k1 : W4.cell? ⟨w.heap.size, 1, none⟩ = some (.string ByteArray.empty) := cell_row hb4
  have k2 : W4.cell? ⟨w.heap.size, 2, none⟩ = some (.int .i64 0) := cell_row hb4
  have HB4 : Below w.heap.size w W4 := by
    rw [hW4]
    exact ((HB3.out.setCell (p := ⟨w.heap.size, 0, none⟩) (by simp) _).setCell (p := ⟨w.heap.size, 1, none⟩) (by simp) _).setCell (p := ⟨w.heap.size, 2, none⟩) (by simp) _
  first | rw [← hW4] | (change bodyPost _ _ _ _ _ (((w3.setCell ⟨w.heap.size, 0, none⟩ (.int .u8 0)).setCell ⟨w.heap.size, 1, none⟩ (.string ByteArray.empty)).setCell ⟨w.heap.size, 2, none⟩ (.int .i64 0)); rw [← hW4])
  clear hW4 hcell hcell2 hfroz hfroz2
  refine bodyPost_ret (v := .tuple #[.agg #[.int .u8 0, .string ByteArray.empty, .int .i64 0], .int .i64 6]) (by simp [results, Tryd.results16, go_sem, k0, k1, k2]) rfl ?_
  exact ⟨by rw [Hfin.out]; rfl, HB4⟩

set_option maxHeartbeats 2000000 in
theorem Parse_good2 (w : World) (s : ByteArray) (hv : VarsI w) (hs : s.size ≤ 140737488351232) (hs0 : 1 ≤ s.size) (hk : kindOf (bl s) = 2) (n : Nat) (hp : puAll (cutB 58 ((bl s).drop 1)) = some n) (hok : okB (cand (bl s) n) = true) (heq : textOf (cand (bl s) n) = bl s) : Calls Tryd.prog 16 #[.string s] w (ReadPost (bl s) w) := by
  have hfin := (parse_cand hp).trans (if_pos ⟨hok, heq⟩)
  have hx : bl (s.extract 1 s.size) = (bl s).drop 1 := by
    rw [bl_extract, List.take_of_length_le (by rw [List.length_drop, bl_length]; omega)]
  obtain ⟨A1, hA1⟩ : ∃ A1, A1 = bsOf (cutA 58 ((bl s).drop 1)) := ⟨_, rfl⟩
  obtain ⟨B1, hB1⟩ : ∃ B1, B1 = bsOf (cutB 58 ((bl s).drop 1)) := ⟨_, rfl⟩
  have hAs : A1.size ≤ maxLen := by
    have := cutA_length 58 ((bl s).drop 1)
    rw [List.length_drop, bl_length] at this
    rw [hA1, size_bsOf]
    unfold maxLen
    omega
  have hBs : B1.size ≤ 281474976710656 := by
    have := cutB_length 58 ((bl s).drop 1)
    rw [List.length_drop, bl_length] at this
    rw [hB1, size_bsOf]
    omega
  have hcut : ∀ w, Calls Tryd.prog 57 #[.string (s.extract 1 s.size), .string (bsOf [58])] w fun e w' => (∃ f : Bool, e = .returned (.tuple #[.string A1, .string B1, .bool f])) ∧ ∃ n, w' = w.drewN n := fun w => by
    have := cut_ok w (s.extract 1 s.size) (by rw [ByteArray.size_extract]; unfold maxLen; omega) 58
    rw [hx] at this
    rw [hA1, hB1]
    exact this
  have hpu : ∀ w, VarsI w → Calls Tryd.prog 58 #[.string B1, .int .i64 10, .int .i64 6] w fun e w' => e = .returned (.tuple #[.int .u64 n, .nilIface]) ∧ Below w.heap.size w w' := fun w hv => (pub_ok w B1 hv hBs).mono fun e w' h => by
    unfold PuPost2 at h
    rw [hB1, bl_bsOf, hp] at h
    exact h
  have hn63 := puAll_le hp
  have hid : idOf 2 A1 n = cand (bl s) n := by
    unfold idOf cand
    rw [hA1, bl_bsOf, hk]
  have htx : ∀ w , VarsI w → Calls Tryd.prog 14 #[.agg #[.int .u8 2, .string A1, .int .i64 n]] w fun e w' => e = .returned (.tuple #[.string s, .int .i64 0]) ∧ Below w.heap.size w w' := fun w  hv => (by have := Text_ok w 2 A1 n hv (by rw [hid]; exact hok); rw [hid, heq, bsOf_bl] at this; exact this)
  have hres : readV (some (cand (bl s) n)) = .tuple #[.agg #[.int .u8 2, .string A1, .int .i64 n], .int .i64 0] := by
    unfold readV
    simp only [cand]
    rw [hA1, hk]
  have Hres := Lib.hid hres
  clear hres
  obtain ⟨W0, hW0⟩ : ∃ W0, W0 = w.alloc (.cells #[.int .u8 0, .string ByteArray.empty, .int .i64 0] 24) := ⟨_, rfl⟩
  have hb0 : Below w.heap.size w W0 := by rw [hW0]; exact (Below.refl _ w).alloc (Nat.le_refl _) _
  have hbx : W0.heap[w.heap.size]? = some (.cells #[.int .u8 0, .string ByteArray.empty, .int .i64 0] 24 (0, 0)) := by rw [hW0]; exact heap_new _ _
  have HV := Lib.hid (hv.below hb0)
  have Hfin := Lib.hid hfin
  have Hk := Lib.hid hk
  have Hcut := Lib.hid hcut
  have Hpu := Lib.hid hpu
  have HW0 := Lib.hid hW0
  have Htx := Lib.hid htx
  clear hfin hk hv hA1 hB1 hx hp hcut hpu hW0 htx hok hid heq
  go_enter Tryd.func16, Tryd.ntmps16
  go_wp2_with fail
  rw [show (w.alloc (.cells #[.int .u8 0, .string ⟨#[]⟩, .int .i64 0] 24)) = W0 from HW0.out.symm]
  refine (kind_at W0 s HV.out Hk.out).mono ?_
  rintro e w' ⟨rfl, rfl⟩
  go_wp2_with fail
  refine (Hcut.out W0).mono ?_
  rintro e w' ⟨⟨f, rfl⟩, nd, rfl⟩
  go_wp2_with fail
  have HV1 := Lib.hid (HV.out.below (Bl.drewN (Below.refl _ W0) nd))
  refine (Hpu.out (W0.drewN nd) HV1.out).mono ?_
  rintro e w2 ⟨rfl, hb2⟩
  have hl2 : w.heap.size < W0.heap.size := lt_row hbx
  have hl3 : w.heap.size < w2.heap.size := Nat.lt_of_lt_of_le hl2 hb2.size
  have hbx2 : w2.heap[w.heap.size]? = some (.cells #[.int .u8 0, .string ByteArray.empty, .int .i64 0] 24 (0, 0)) := (hb2.block _ hl2).trans hbx
  have HB2 := Lib.hid (hb0.trans ((Bl.call (Bl.drewN (Below.refl _ W0) nd) hb2).mono hb0.size))
  have HV2 := Lib.hid (HV1.out.below hb2)
  clear hb2 hbx
  go_wp2_with fail
  have HV3 := Lib.hid (HV2.out.below ((Below.refl _ w2).alloc (Nat.le_refl _) (.cells #[.int .u8 2, .string A1, .int .i64 n] 24)))
  refine (Htx.out _  HV3.out).mono ?_
  rintro e w3 ⟨rfl, hb3⟩
  have hbx3 : w3.heap[w.heap.size]? = some (.cells #[.int .u8 0, .string ByteArray.empty, .int .i64 0] 24 (0, 0)) := (hb3.block _ (by simp; omega)).trans ((Below.heap_alloc _ _ _ hl3).trans hbx2)
  have hby3 : w3.heap[w2.heap.size]? = some (.cells #[.int .u8 2, .string A1, .int .i64 n] 24 (0, 0)) := (hb3.block _ (by simp)).trans (heap_new _ _)
  have HB3 := Lib.hid (HB2.out.trans (((Below.refl w2.heap.size w2).alloc (Nat.le_refl _) (.cells #[.int .u8 2, .string A1, .int .i64 n] 24)).trans (hb3.mono (by simp)) |>.mono HB2.out.size))
  obtain ⟨hcell, hfroz⟩ := row_facts hbx3
  obtain ⟨hcell2, hfroz2⟩ := row_facts hby3
  have hl4 := lt_row hbx3
  clear hb3
  go_wp2
  obtain ⟨W4, hW4⟩ : ∃ W4, W4 = (((w3.setCell ⟨w.heap.size, 0, none⟩ (.int .u8 2)).setCell ⟨w.heap.size, 1, none⟩ (.string A1)).setCell ⟨w.heap.size, 2, none⟩ (.int .i64 n)) := ⟨_, rfl⟩
  have hb4 : W4.heap[w.heap.size]? = some (.cells #[.int .u8 2, .string A1, .int .i64 n] 24 (0, 0)) := by
    rw [hW4]
    exact heap_setCell_same (heap_setCell_same (heap_setCell_same hbx3 _) _) _
  have k0 : W4.cell? ⟨w.heap.size, 0, none⟩ = some (.int .u8 2) := cell_row hb4
  have k1 : W4.cell? ⟨w.heap.size, 1, none⟩ = some (.string A1) := cell_row hb4
  have k2 : W4.cell? ⟨w.heap.size, 2, none⟩ = some (.int .i64 n) := cell_row hb4
  have HB4 : Below w.heap.size w W4 := by
    rw [hW4]
    exact ((HB3.out.setCell (p := ⟨w.heap.size, 0, none⟩) (by simp) _).setCell (p := ⟨w.heap.size, 1, none⟩) (by simp) _).setCell (p := ⟨w.heap.size, 2, none⟩) (by simp) _
  first | rw [← hW4] | (change bodyPost _ _ _ _ _ (((w3.setCell ⟨w.heap.size, 0, none⟩ (.int .u8 2)).setCell ⟨w.heap.size, 1, none⟩ (.string A1)).setCell ⟨w.heap.size, 2, none⟩ (.int .i64 n)); rw [← hW4])
  clear hW4 hcell hcell2 hfroz hfroz2
  refine bodyPost_ret (v := .tuple #[.agg #[.int .u8 2, .string A1, .int .i64 n], .int .i64 0]) (by simp [results, Tryd.results16, go_sem, k0, k1, k2]) rfl ?_
  exact ⟨by rw [Hfin.out]; rw [Hres.out], HB4⟩

theorem Parse_ok (w : World) (s : ByteArray) (hv : VarsI w) (hs : s.size ≤ 140737488351232) : Calls Tryd.prog 16 #[.string s] w (ReadPost (bl s) w) := by
  have hk : kindOf (bl s) = 0 ∨ kindOf (bl s) = 1 ∨ kindOf (bl s) = 2 := by
    unfold kindOf
    split <;> simp
  have h0 : kindOf (bl s) ≠ 0 → 1 ≤ s.size := fun h => by
    rw [← bl_length]
    cases hb : bl s with
    | nil => rw [hb] at h; exact absurd rfl h
    | cons c r => simp
  rcases hk with hk | hk | hk
  · exact Parse_0 w s hv hs hk
  all_goals
    have hs0 := h0 (by omega)
    cases hp : puAll (cutB 58 ((bl s).drop 1)) with
    | none => first | exact Parse_err1 w s hv hs hs0 hk hp | exact Parse_err2 w s hv hs hs0 hk hp
    | some n =>
      cases hok : okB (cand (bl s) n)
      · first | exact Parse_bad1 w s hv hs hs0 hk n hp hok | exact Parse_bad2 w s hv hs hs0 hk n hp hok
      · by_cases he : textOf (cand (bl s) n) = bl s
        · first | exact Parse_good1 w s hv hs hs0 hk n hp hok he | exact Parse_good2 w s hv hs hs0 hk n hp hok he
        · first | exact Parse_diff1 w s hv hs hs0 hk n hp hok he | exact Parse_diff2 w s hv hs hs0 hk n hp hok he

/-- A server, and whether there is one. -/
def servV (o : Option Int) : Value := match o with
  | some n => .tuple #[.int .i64 n, .bool true]
  | none => .tuple #[.int .i64 0, .bool false]
def ServPost (o : Option Int) (w : World) (e : Ending) (w' : World) : Prop := e = .returned (servV o) ∧ Below w.heap.size w w'

set_option maxHeartbeats 1000000 in
theorem of_ok (w : World) (s : ByteArray) (hv : VarsI w) (hs : s.size ≤ 140737488351232) (k : Int) : Calls Tryd.prog 60 #[.string s, .int .u8 k] w (ServPost (serverOf k (bl s)) w) := by
  have hp := Parse_ok w s hv hs
  cases he : IdentS.parse (bl s) with
  | none =>
    have hfin : serverOf k (bl s) = none := by unfold serverOf; rw [he]; rfl
    unfold ReadPost at hp
    rw [he] at hp
    rw [hfin]
    have Hp := Lib.hid hp
    clear hp he hfin hv
    go_enter Tryd.func60, Tryd.ntmps60
    go_wp2_with fail
    refine Hp.out.mono ?_
    rintro e w' ⟨rfl, hb⟩
    have HB := Lib.hid hb
    clear hb
    unfold readV
    go_wp2
    go_ret2
    exact ⟨rfl, HB.out.alloc HB.out.size _⟩
  | some x =>
    unfold ReadPost at hp
    rw [he] at hp
    by_cases hk : x.kind = k
    · have hfin : serverOf k (bl s) = some x.server := by unfold serverOf; rw [he]; exact if_pos hk
      have hkb : (x.kind != k) = false := by simp [hk]
      rw [hfin]
      have Hp := Lib.hid hp
      clear hp he hfin hv hk
      go_enter Tryd.func60, Tryd.ntmps60
      go_wp2_with fail
      refine Hp.out.mono ?_
      rintro e w' ⟨rfl, hb⟩
      have HB := Lib.hid hb
      clear hb
      unfold readV
      go_wp2
      go_ret2
      exact ⟨rfl, HB.out.alloc HB.out.size _⟩
    · have hfin : serverOf k (bl s) = none := by unfold serverOf; rw [he]; exact if_neg hk
      have hkb : (x.kind != k) = true := by simp [hk]
      rw [hfin]
      have Hp := Lib.hid hp
      clear hp he hfin hv hk
      go_enter Tryd.func60, Tryd.ntmps60
      go_wp2_with fail
      refine Hp.out.mono ?_
      rintro e w' ⟨rfl, hb⟩
      have HB := Lib.hid hb
      clear hb
      unfold readV
      go_wp2
      go_ret2
      exact ⟨rfl, HB.out.alloc HB.out.size _⟩

theorem User_ok (w : World) (s : ByteArray) (hv : VarsI w) (hs : s.size ≤ 140737488351232) : Calls Tryd.prog 18 #[.string s] w (ServPost (serverOf 1 (bl s)) w) := by
  have hp := of_ok w s hv hs 1
  have Hp := Lib.hid hp
  clear hp hv
  cases he : serverOf 1 (bl s)
  all_goals
    rw [he] at Hp
    go_enter Tryd.func18, Tryd.ntmps18
    go_wp2_with fail
    refine Hp.out.mono ?_
    rintro e w' ⟨rfl, hb⟩
    have HB := Lib.hid hb
    clear hb he
    unfold servV
    go_wp2
    go_ret2
    exact ⟨rfl, HB.out⟩
theorem Room_ok (w : World) (s : ByteArray) (hv : VarsI w) (hs : s.size ≤ 140737488351232) : Calls Tryd.prog 20 #[.string s] w (ServPost (serverOf 2 (bl s)) w) := by
  have hp := of_ok w s hv hs 2
  have Hp := Lib.hid hp
  clear hp hv
  cases he : serverOf 2 (bl s)
  all_goals
    rw [he] at Hp
    go_enter Tryd.func20, Tryd.ntmps20
    go_wp2_with fail
    refine Hp.out.mono ?_
    rintro e w' ⟨rfl, hb⟩
    have HB := Lib.hid hb
    clear hb he
    unfold servV
    go_wp2
    go_ret2
    exact ⟨rfl, HB.out⟩

end Go.Proofs.YtfodloepkgkilaaDoor.IdentR
