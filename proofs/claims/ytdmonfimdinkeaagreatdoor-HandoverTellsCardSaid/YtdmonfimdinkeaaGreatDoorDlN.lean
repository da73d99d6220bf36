/-
  WHAT IS PROVED: the statement's function that compares deals with the document's own answers answers true. Condition: the variables hold what 'VarsD' and 'VarsH' say, and the strings are not longer than the theorem says.
-/
import Derived.Test.YtdmonfimdinkeaaGreatDoorDlI
import Derived.Test.YtdmonfimdinkeaaGreatDoorDlQ
import Derived.Test.YtdmonfimdinkeaaGreatDoorWireK
namespace Go.Proofs.YtdmonfimdinkeaaGreatDoor.DlN
open Go Go.RowKit Go.Shelf Go.Proofs.YtdmonfimdinkeaaGreatDoor Go.Proofs.YtdmonfimdinkeaaGreatDoor.OctetS Go.Proofs.YtdmonfimdinkeaaGreatDoor.IdentS Go.Proofs.YtdmonfimdinkeaaGreatDoor.EntS Go.Proofs.YtdmonfimdinkeaaGreatDoor.OctG Go.Proofs.YtdmonfimdinkeaaGreatDoor.IdentP Go.Proofs.YtdmonfimdinkeaaGreatDoor.EntP Go.Proofs.YtdmonfimdinkeaaGreatDoor.EventC Go.Proofs.YtdmonfimdinkeaaGreatDoor.ShaA Go.Proofs.YtdmonfimdinkeaaGreatDoor.Steps Go.Proofs.YtdmonfimdinkeaaGreatDoor.KeyA Go.Proofs.YtdmonfimdinkeaaGreatDoor.KeyS Go.Proofs.YtdmonfimdinkeaaGreatDoor.KeyI Go.Proofs.YtdmonfimdinkeaaGreatDoor.KeyK Go.Proofs.YtdmonfimdinkeaaGreatDoor.TreeA Go.Proofs.YtdmonfimdinkeaaGreatDoor.EntK Go.Proofs.YtdmonfimdinkeaaGreatDoor.BookA Go.Proofs.YtdmonfimdinkeaaGreatDoor.EntL Go.Proofs.YtdmonfimdinkeaaGreatDoor.WireS Go.Proofs.YtdmonfimdinkeaaGreatDoor.WireT Go.Proofs.YtdmonfimdinkeaaGreatDoor.WireD Go.Proofs.YtdmonfimdinkeaaGreatDoor.DlV Go.Proofs.YtdmonfimdinkeaaGreatDoor.DlT Go.Proofs.YtdmonfimdinkeaaGreatDoor.DlL Go.Proofs.YtdmonfimdinkeaaGreatDoor.KeyG
open Go.Proofs.YtdmonfimdinkeaaGreatDoor.EntQ (ring_below)
set_option linter.unusedVariables false
set_option linter.unusedSimpArgs false
attribute [-go_sem] run_equalIn_agg

set_option maxRecDepth 100000 in
set_option maxHeartbeats 4000000 in
theorem tells_ok (w : World) (hv : VarsD w) (hk : VarsH w) (p q : Array Value) (s : ByteArray) (k : Int) (r : ByteArray) (ep ix hub next : Int) (sg : ByteArray) (k' : Int) (r' : ByteArray) (ep' ix' hub' next' : Int) (sg' : ByteArray) (hp : p = dlA k r ep ix hub next sg) (hq : q = dlA k' r' ep' ix' hub' next' sg') (k0 : 0 ≤ k) (k1 : k ≤ 255) (k0' : 0 ≤ k') (k1' : k' ≤ 255) (hr : r.size ≤ 140737488351232) (hs : sg.size ≤ maxLen) (hr' : r'.size ≤ 140737488351232) (hs' : sg'.size ≤ maxLen) (ht : s.size ≤ 140737488351232) :
    Calls Tryz.prog 4 #[.agg p, .agg q, .string s] w (RB (.bool true) w) := by
  obtain ⟨T1, W1, a1, a2⟩ : ∃ (T : ByteArray) (E : Int), (∀ w, VarsD w → Calls Tryz.prog 21 #[.agg p] w (RB (.tuple #[.string T, .int .i64 E]) w)) ∧ (∀ w, VarsD w → Calls Tryz.prog 22 #[.agg p] w (RB (.tuple #[.string T, .int .i64 E]) w)) := ⟨_, _, fun w hv => P_Text w p k r ep ix hub next sg hp hv k0 k1 hr hs, fun w hv => R_Text w p k r ep ix hub next sg hp hv k0 k1 hr hs⟩
  obtain ⟨T3, W3, c1, c2⟩ : ∃ (T : ByteArray) (E : Int), (∀ w, VarsD w → Calls Tryz.prog 23 #[.agg p] w (RB (.tuple #[.string T, .int .i64 E]) w)) ∧ (∀ w, VarsD w → Calls Tryz.prog 24 #[.agg p] w (RB (.tuple #[.string T, .int .i64 E]) w)) := ⟨_, _, fun w hv => P_Bytes w p k r ep ix hub next sg hp hv k0 k1 hr hs, fun w hv => R_Bytes w p k r ep ix hub next sg hp hv k0 k1 hr hs⟩
  obtain ⟨X, W4, k4, r4, ep4, ix4, hub4, next4, g4, hX, _, _, _, _, hV4, _⟩ := DlI.parse_row s
  have d1 := fun w hv => WireD.d_Parse w s ht hv
  have d2 := fun w => WireK.Parse_ok w s ht
  rw [hV4] at d1 d2
  obtain ⟨F, hFe⟩ : ∃ F, F = ansA k r ep ix hub next sg := ⟨_, rfl⟩
  obtain ⟨W7, o1, o2⟩ : ∃ (E : Int), (∀ w, VarsD w → Calls Tryz.prog 27 #[.agg p] w (RB (.tuple #[.agg F, .int .i64 E]) w)) ∧ (∀ w, VarsD w → Calls Tryz.prog 28 #[.agg p] w (RB (.tuple #[.agg F, .int .i64 E]) w)) := ⟨_, by rw [hFe]; exact fun w hv => P_Answer w p k r ep ix hub next sg hp hv k0 k1 hr hs, by rw [hFe]; exact fun w hv => R_Answer w p k r ep ix hub next sg hp hv k0 k1 hr hs⟩
  obtain ⟨kF, rF, epF, ixF, hubF, nextF, gF, hFr⟩ := DlI.ans_row k r ep ix hub next sg
  rw [← hFe] at hFr
  obtain ⟨W6, g1, g2⟩ : ∃ (E : Int), (∀ w, VarsD w → Calls Tryz.prog 29 #[.agg p] w (RB (.int .i64 E) w)) ∧ (∀ w, VarsD w → Calls Tryz.prog 30 #[.agg p] w (RB (.int .i64 E) w)) := ⟨_, fun w hv => WireD.d_Check w p k r ep ix hub next sg hp hv.i k0 hr hs, fun w hv => WireG.r_Check w p k r ep ix hub next sg hp k0 k1 hr hs⟩
  obtain ⟨fb, m1, m2⟩ : ∃ (b : Bool), (∀ w, VarsD w → Calls Tryz.prog 31 #[.agg p, .agg q] w (RB (.bool b) w)) ∧ (∀ w, VarsD w → Calls Tryz.prog 32 #[.agg p, .agg q] w (RB (.bool b) w)) := ⟨_, fun w hv => P_Fits w p q k r ep ix hub next sg k' r' ep' ix' hub' next' sg' hp hq hv k0 k1 k0' k1' hr hs hr' hs', fun w hv => R_Fits w p q k r ep ix hub next sg k' r' ep' ix' hub' next' sg' hp hq hv k0 k1 k0' k1' hr hs hr' hs'⟩
  have hqX : ∀ w, (Op.equalIn 10000 39 (.agg X) (.agg X)).run Tryz.prog w = .ok true w := fun w => DlT.eq_self _ _ _ _ _ _ _ hX w
  have hqF : ∀ w, (Op.equalIn 10000 39 (.agg F) (.agg F)).run Tryz.prog w = .ok true w := fun w => DlT.eq_self _ _ _ _ _ _ _ hFr w
  have hpn : p.size = 7 := by rw [hp]; rfl
  have HpS : Hid ((Tryz.prog.info? 39).map (·.size) = some p.size) := Lib.hid (by rw [hpn]; kernel_rfl)
  have HpN : Hid (7 = p.size) := Lib.hid hpn.symm
  have HpO : Hid (p.all (·.oneCell') = true) := Lib.hid (by rw [hp]; simp [dlA, Value.oneCell'])
  have hqn : q.size = 7 := by rw [hq]; rfl
  have HqS : Hid ((Tryz.prog.info? 39).map (·.size) = some q.size) := Lib.hid (by rw [hqn]; kernel_rfl)
  have HqN : Hid (7 = q.size) := Lib.hid hqn.symm
  have HqO : Hid (q.all (·.oneCell') = true) := Lib.hid (by rw [hq]; simp [dlA, Value.oneCell'])
  have hXn : X.size = 7 := by rw [hX]; rfl
  have HXS : Hid ((Tryz.prog.info? 39).map (·.size) = some X.size) := Lib.hid (by rw [hXn]; kernel_rfl)
  have HXN : Hid (7 = X.size) := Lib.hid hXn.symm
  have HXO : Hid (X.all (·.oneCell') = true) := Lib.hid (by rw [hX]; simp [dlA, Value.oneCell'])
  have hFn : F.size = 7 := by rw [hFr]; rfl
  have HFS : Hid ((Tryz.prog.info? 39).map (·.size) = some F.size) := Lib.hid (by rw [hFn]; kernel_rfl)
  have HFN : Hid (7 = F.size) := Lib.hid hFn.symm
  have HFO : Hid (F.all (·.oneCell') = true) := Lib.hid (by rw [hFr]; simp [dlA, Value.oneCell'])
  have A1 := Lib.hid a1
  have A2 := Lib.hid a2
  have C1 := Lib.hid c1
  have C2 := Lib.hid c2
  have D1 := Lib.hid d1
  have D2 := Lib.hid d2
  have G1 := Lib.hid g1
  have G2 := Lib.hid g2
  have O1 := Lib.hid o1
  have O2 := Lib.hid o2
  have M1 := Lib.hid m1
  have M2 := Lib.hid m2
  have HQX := Lib.hid hqX
  have HQF := Lib.hid hqF
  have HGE := Lib.hid guardDl
  have HV := Lib.hid hv
  have HK := Lib.hid hk
  clear a1 a2 c1 c2 d1 d2 g1 g2 o1 o2 m1 m2 hqX hqF hX hFr hFe hV4 hp hq hr hs hr' hs' hv hk ht hpn hqn hXn hFn
  obtain ⟨w0, hw0⟩ : ∃ w0, w0 = (w.alloc (.cells p 39)).alloc (.cells q 39) := ⟨_, rfl⟩
  have hb0 : Below w.heap.size w w0 := by rw [hw0]; exact ((Below.refl _ _).alloc (Nat.le_refl _) _).alloc (by simp) _
  have HP0 : Hid (w0.heap[w.heap.size]? = some (.cells p 39 (0, 0))) := Lib.hid (by rw [hw0]; exact heap_at (heap_new _ _) _)
  have HO0 : Hid (w0.heap[w.heap.size + 1]? = some (.cells q 39 (0, 0))) := Lib.hid (by rw [hw0]; exact heap_new' _ (by simp))
  have lP0 := lt_row HP0.out
  have lO0 := lt_row HO0.out
  have HBL0 := Lib.hid hb0
  have HW0 := Lib.hid hw0
  have z0 := hb0.size
  clear hw0 hb0
  by_cases hbig : 16384 < s.size
  · skip
    go_enter Tryz.func4, Tryz.ntmps4
    go_wp2_with fail
    rw [← HW0.out]
    refine (DlQ.lives_ok w0 (HV.out.below HBL0.out) (HK.out.below HBL0.out)).mono ?_
    rintro e' w1 ⟨rfl, hb⟩
    have HB1 := Lib.hid (HBL0.out.trans (hb.mono HBL0.out.size))
    clear hb
    go_wp2
    go_ret
    exact ⟨rfl, HB1.out⟩
  · skip
    go_enter Tryz.func4, Tryz.ntmps4
    go_wp2_with (first | (rw [← HW0.out]; refine wpList_load_row rfl _ _ rfl w.heap.size rfl _ p (0, 0) _ HP0.out Tryz.underlying39 rfl HpS.out ?_) | fail)
    refine (A1.out w0 (HV.out.below HBL0.out)).mono ?_
    rintro e' w1 ⟨rfl, hb⟩
    have HP1 := Lib.hid ((hb.block _ lP0).trans HP0.out)
    have lP1 := lt_row HP1.out
    have HO1 := Lib.hid ((hb.block _ lO0).trans HO0.out)
    have lO1 := lt_row HO1.out
    have HBL1 := Lib.hid (HBL0.out.trans (hb.mono HBL0.out.size))
    have z1 := HBL1.out.size
    clear hb z0 lP0 lO0
    go_wp2_with (first | (refine wpList_load_row rfl _ _ rfl w.heap.size rfl _ p (0, 0) _ HP1.out Tryz.underlying39 rfl HpS.out ?_) | fail)
    refine (A2.out w1 (HV.out.below HBL1.out)).mono ?_
    rintro e w2 ⟨rfl, hb⟩
    have HP2 := Lib.hid ((hb.block _ lP1).trans HP1.out)
    have lP2 := lt_row HP2.out
    have HO2 := Lib.hid ((hb.block _ lO1).trans HO1.out)
    have lO2 := lt_row HO2.out
    have HBL2 := Lib.hid (HBL1.out.trans (hb.mono HBL1.out.size))
    have z2 := HBL2.out.size
    clear hb z1 lP1 lO1
    go_wp2_with (first | (refine wpList_load_row rfl _ _ rfl w.heap.size rfl _ p (0, 0) _ HP2.out Tryz.underlying39 rfl HpS.out ?_) | fail)
    refine (C1.out w2 (HV.out.below HBL2.out)).mono ?_
    rintro e w3 ⟨rfl, hb⟩
    have HP3 := Lib.hid ((hb.block _ lP2).trans HP2.out)
    have lP3 := lt_row HP3.out
    have HO3 := Lib.hid ((hb.block _ lO2).trans HO2.out)
    have lO3 := lt_row HO3.out
    have HBL3 := Lib.hid (HBL2.out.trans (hb.mono HBL2.out.size))
    have z3 := HBL3.out.size
    clear hb z2 lP2 lO2
    go_wp2_with (first | (refine wpList_load_row rfl _ _ rfl w.heap.size rfl _ p (0, 0) _ HP3.out Tryz.underlying39 rfl HpS.out ?_) | fail)
    refine (C2.out w3 (HV.out.below HBL3.out)).mono ?_
    rintro e w4 ⟨rfl, hb⟩
    have HP4 := Lib.hid ((hb.block _ lP3).trans HP3.out)
    have lP4 := lt_row HP4.out
    have HO4 := Lib.hid ((hb.block _ lO3).trans HO3.out)
    have lO4 := lt_row HO4.out
    have HBL4 := Lib.hid (HBL3.out.trans (hb.mono HBL3.out.size))
    have z4 := HBL4.out.size
    clear hb z3 lP3 lO3
    go_wp2_with fail
    refine (D1.out w4 (HV.out.below HBL4.out)).mono ?_
    rintro e w5 ⟨rfl, hb⟩
    have HP5 := Lib.hid ((hb.block _ lP4).trans HP4.out)
    have lP5 := lt_row HP5.out
    have HO5 := Lib.hid ((hb.block _ lO4).trans HO4.out)
    have lO5 := lt_row HO5.out
    have HBL5 := Lib.hid (HBL4.out.trans (hb.mono HBL4.out.size))
    have z5 := HBL5.out.size
    clear hb z4 lP4 lO4
    go_wp2_with (first | (refine wpList_store_rowA rfl _ _ _ rfl w5.heap.size X rfl rfl _ _ (heap_new _ _) HXS.out (by rw [← HXN.out]; rfl) HXO.out ?_) | fail)
    intro u1 hu1
    have hb : Below w5.heap.size w5 u1 := by rw [hu1.out]; exact below_row ((Below.refl _ _).alloc (Nat.le_refl _) _) (Nat.le_refl _) _
    have hy : u1.heap[w5.heap.size]? = some (.cells X 39 (0, 0)) := by rw [hu1.out]; exact setRow_at (heap_new _ _)
    clear hu1
    obtain ⟨w6, hww⟩ : ∃ w', w' = u1 := ⟨_, rfl⟩
    rw [← hww] at hb hy ⊢
    clear hww
    obtain ⟨BX, hBX⟩ : ∃ B, B = w5.heap.size := ⟨_, rfl⟩
    rw [← hBX] at hy ⊢
    have gX : w.heap.size ≤ BX := by omega
    clear hBX
    have Hyn := Lib.hid hy
    clear hy
    have HP6 := Lib.hid ((hb.block _ lP5).trans HP5.out)
    have lP6 := lt_row HP6.out
    have HO6 := Lib.hid ((hb.block _ lO5).trans HO5.out)
    have lO6 := lt_row HO6.out
    have HBL6 := Lib.hid (HBL5.out.trans (hb.mono HBL5.out.size))
    have z6 := HBL6.out.size
    clear hb z5 lP5 lO5
    have HX6 := Lib.hid Hyn.out
    have lX6 := lt_row HX6.out
    clear Hyn
    go_wp2_with fail
    refine (D2.out w6).mono ?_
    rintro e w7 ⟨rfl, hb⟩
    have HP7 := Lib.hid ((hb.block _ lP6).trans HP6.out)
    have lP7 := lt_row HP7.out
    have HO7 := Lib.hid ((hb.block _ lO6).trans HO6.out)
    have lO7 := lt_row HO7.out
    have HX7 := Lib.hid ((hb.block _ lX6).trans HX6.out)
    have lX7 := lt_row HX7.out
    have HBL7 := Lib.hid (HBL6.out.trans (hb.mono HBL6.out.size))
    have z7 := HBL7.out.size
    clear hb z6 lP6 lO6 lX6
    go_wp2_with (first | (refine wpList_store_rowA rfl _ _ _ rfl w7.heap.size X rfl rfl _ _ (heap_new _ _) HXS.out (by rw [← HXN.out]; rfl) HXO.out ?_) | fail)
    intro u1 hu1
    have hb : Below w7.heap.size w7 u1 := by rw [hu1.out]; exact below_row ((Below.refl _ _).alloc (Nat.le_refl _) _) (Nat.le_refl _) _
    have hy : u1.heap[w7.heap.size]? = some (.cells X 39 (0, 0)) := by rw [hu1.out]; exact setRow_at (heap_new _ _)
    clear hu1
    obtain ⟨w8, hww⟩ : ∃ w', w' = u1 := ⟨_, rfl⟩
    rw [← hww] at hb hy ⊢
    clear hww
    obtain ⟨BU, hBU⟩ : ∃ B, B = w7.heap.size := ⟨_, rfl⟩
    rw [← hBU] at hy ⊢
    have gU : w.heap.size ≤ BU := by omega
    clear hBU
    have Hyn := Lib.hid hy
    clear hy
    have HP8 := Lib.hid ((hb.block _ lP7).trans HP7.out)
    have lP8 := lt_row HP8.out
    have HO8 := Lib.hid ((hb.block _ lO7).trans HO7.out)
    have lO8 := lt_row HO8.out
    have HX8 := Lib.hid ((hb.block _ lX7).trans HX7.out)
    have lX8 := lt_row HX8.out
    have HBL8 := Lib.hid (HBL7.out.trans (hb.mono HBL7.out.size))
    have z8 := HBL8.out.size
    clear hb z7 lP7 lO7 lX7
    have HU8 := Lib.hid Hyn.out
    have lU8 := lt_row HU8.out
    clear Hyn
    go_wp2_with (first | (refine wpList_load_row rfl _ _ rfl w.heap.size rfl _ p (0, 0) _ HP8.out Tryz.underlying39 rfl HpS.out ?_) | fail)
    refine (O1.out w8 (HV.out.below HBL8.out)).mono ?_
    rintro e w9 ⟨rfl, hb⟩
    have HP9 := Lib.hid ((hb.block _ lP8).trans HP8.out)
    have lP9 := lt_row HP9.out
    have HO9 := Lib.hid ((hb.block _ lO8).trans HO8.out)
    have lO9 := lt_row HO9.out
    have HX9 := Lib.hid ((hb.block _ lX8).trans HX8.out)
    have lX9 := lt_row HX9.out
    have HU9 := Lib.hid ((hb.block _ lU8).trans HU8.out)
    have lU9 := lt_row HU9.out
    have HBL9 := Lib.hid (HBL8.out.trans (hb.mono HBL8.out.size))
    have z9 := HBL9.out.size
    clear hb z8 lP8 lO8 lX8 lU8
    go_wp2_with (first | (refine wpList_store_rowA rfl _ _ _ rfl w9.heap.size F rfl rfl _ _ (heap_new _ _) HFS.out (by rw [← HFN.out]; rfl) HFO.out ?_) | fail)
    intro u1 hu1
    have hb : Below w9.heap.size w9 u1 := by rw [hu1.out]; exact below_row ((Below.refl _ _).alloc (Nat.le_refl _) _) (Nat.le_refl _) _
    have hy : u1.heap[w9.heap.size]? = some (.cells F 39 (0, 0)) := by rw [hu1.out]; exact setRow_at (heap_new _ _)
    clear hu1
    obtain ⟨w10, hww⟩ : ∃ w', w' = u1 := ⟨_, rfl⟩
    rw [← hww] at hb hy ⊢
    clear hww
    obtain ⟨BG, hBG⟩ : ∃ B, B = w9.heap.size := ⟨_, rfl⟩
    rw [← hBG] at hy ⊢
    have gG : w.heap.size ≤ BG := by omega
    clear hBG
    have Hyn := Lib.hid hy
    clear hy
    have HP10 := Lib.hid ((hb.block _ lP9).trans HP9.out)
    have lP10 := lt_row HP10.out
    have HO10 := Lib.hid ((hb.block _ lO9).trans HO9.out)
    have lO10 := lt_row HO10.out
    have HX10 := Lib.hid ((hb.block _ lX9).trans HX9.out)
    have lX10 := lt_row HX10.out
    have HU10 := Lib.hid ((hb.block _ lU9).trans HU9.out)
    have lU10 := lt_row HU10.out
    have HBL10 := Lib.hid (HBL9.out.trans (hb.mono HBL9.out.size))
    have z10 := HBL10.out.size
    clear hb z9 lP9 lO9 lX9 lU9
    have HG10 := Lib.hid Hyn.out
    have lG10 := lt_row HG10.out
    clear Hyn
    go_wp2_with (first | (refine wpList_load_row rfl _ _ rfl w.heap.size rfl _ p (0, 0) _ HP10.out Tryz.underlying39 rfl HpS.out ?_) | fail)
    refine (O2.out w10 (HV.out.below HBL10.out)).mono ?_
    rintro e w11 ⟨rfl, hb⟩
    have HP11 := Lib.hid ((hb.block _ lP10).trans HP10.out)
    have lP11 := lt_row HP11.out
    have HO11 := Lib.hid ((hb.block _ lO10).trans HO10.out)
    have lO11 := lt_row HO11.out
    have HX11 := Lib.hid ((hb.block _ lX10).trans HX10.out)
    have lX11 := lt_row HX11.out
    have HU11 := Lib.hid ((hb.block _ lU10).trans HU10.out)
    have lU11 := lt_row HU11.out
    have HG11 := Lib.hid ((hb.block _ lG10).trans HG10.out)
    have lG11 := lt_row HG11.out
    have HBL11 := Lib.hid (HBL10.out.trans (hb.mono HBL10.out.size))
    have z11 := HBL11.out.size
    clear hb z10 lP10 lO10 lX10 lU10 lG10
    go_wp2_with (first | (refine wpList_store_rowA rfl _ _ _ rfl w11.heap.size F rfl rfl _ _ (heap_new _ _) HFS.out (by rw [← HFN.out]; rfl) HFO.out ?_) | fail)
    intro u1 hu1
    have hb : Below w11.heap.size w11 u1 := by rw [hu1.out]; exact below_row ((Below.refl _ _).alloc (Nat.le_refl _) _) (Nat.le_refl _) _
    have hy : u1.heap[w11.heap.size]? = some (.cells F 39 (0, 0)) := by rw [hu1.out]; exact setRow_at (heap_new _ _)
    clear hu1
    obtain ⟨w12, hww⟩ : ∃ w', w' = u1 := ⟨_, rfl⟩
    rw [← hww] at hb hy ⊢
    clear hww
    obtain ⟨BK, hBK⟩ : ∃ B, B = w11.heap.size := ⟨_, rfl⟩
    rw [← hBK] at hy ⊢
    have gK : w.heap.size ≤ BK := by omega
    clear hBK
    have Hyn := Lib.hid hy
    clear hy
    have HP12 := Lib.hid ((hb.block _ lP11).trans HP11.out)
    have lP12 := lt_row HP12.out
    have HO12 := Lib.hid ((hb.block _ lO11).trans HO11.out)
    have lO12 := lt_row HO12.out
    have HX12 := Lib.hid ((hb.block _ lX11).trans HX11.out)
    have lX12 := lt_row HX12.out
    have HU12 := Lib.hid ((hb.block _ lU11).trans HU11.out)
    have lU12 := lt_row HU12.out
    have HG12 := Lib.hid ((hb.block _ lG11).trans HG11.out)
    have lG12 := lt_row HG12.out
    have HBL12 := Lib.hid (HBL11.out.trans (hb.mono HBL11.out.size))
    have z12 := HBL12.out.size
    clear hb z11 lP11 lO11 lX11 lU11 lG11
    have HK12 := Lib.hid Hyn.out
    have lK12 := lt_row HK12.out
    clear Hyn
    go_wp2_with fail
    have hqX := HQX.out
    have hqF := HQF.out
    have hGE := HGE.out
    have HVk := Lib.hid (HV.out.below HBL12.out)
    have HKk := Lib.hid (HK.out.below HBL12.out)
    refine Uniform.region_chain (S := (fun W => W.heap[w.heap.size]? = some (.cells p 39 (0, 0)) ∧ W.heap[(w.heap.size + 1)]? = some (.cells q 39 (0, 0)) ∧ W.heap[BX]? = some (.cells X 39 (0, 0)) ∧ W.heap[BU]? = some (.cells X 39 (0, 0)) ∧ W.heap[BG]? = some (.cells F 39 (0, 0)) ∧ W.heap[BK]? = some (.cells F 39 (0, 0)) ∧ VarsD W ∧ VarsH W ∧ Below w.heap.size w W)) (List.range 58) (by kernel_rfl) (by kernel_rfl) ⟨HP12.out, HO12.out, HX12.out, HU12.out, HG12.out, HK12.out, (HVk.out).below (Bl.drew (Below.refl _ _)), (HKk.out).below (Bl.drew (Below.refl _ _)), (HBL12.out).drew⟩ ?_
    refine ⟨_, ?_, rfl, Or.inl ⟨by rfl, fun wq hSw => Uniform.UStep.call (w' := wq) ?_ ((DlQ.lives_ok wq hSw.2.2.2.2.2.2.1 hSw.2.2.2.2.2.2.2.1).mono ?_)⟩, ?_⟩
    rotate_left
    · obtain ⟨q0, q1, q2, q3, q4, q5, q6, q7, q8⟩ := hSw
      go_simp
      first | done | rfl | exact ⟨⟨rfl, rfl⟩, rfl⟩ | exact ⟨rfl, rfl⟩
    · have hSk := hSw
      obtain ⟨q0, q1, q2, q3, q4, q5, q6, q7, q8⟩ := hSw
      rintro e wq2 ⟨rfl, hbq⟩
      refine ⟨?_, (hbq.block _ (lt_row q0)).trans q0, (hbq.block _ (lt_row q1)).trans q1, (hbq.block _ (lt_row q2)).trans q2, (hbq.block _ (lt_row q3)).trans q3, (hbq.block _ (lt_row q4)).trans q4, (hbq.block _ (lt_row q5)).trans q5, q6.below hbq, q7.below hbq, q8.trans (hbq.mono q8.size)⟩
      rfl
    simp only [Act.put, List.getElem_toArray, List.getElem_cons_zero, List.getElem_cons_succ, List.setIfInBounds_toArray, List.set_cons_zero, List.set_cons_succ]
    refine ⟨_, ?_, rfl, Or.inl ⟨by rfl, fun wq hSw => Uniform.UStep.value (w' := wq) ?_ hSw⟩, ?_⟩
    rotate_left
    · obtain ⟨q0, q1, q2, q3, q4, q5, q6, q7, q8⟩ := hSw
      go_simp
      rfl
    simp only [Act.put, List.getElem_toArray, List.getElem_cons_zero, List.getElem_cons_succ, List.setIfInBounds_toArray, List.set_cons_zero, List.set_cons_succ]
    refine ⟨_, _, rfl, Or.inl ⟨by rfl, fun wq hSw => Uniform.UStep.value (w' := wq) (EqHash.exec_load_row 39 _ rfl _ rfl hSw.1 Tryz.underlying39 rfl HpS.out) hSw⟩, ?_⟩
    simp only [Act.put, List.getElem_toArray, List.getElem_cons_zero, List.getElem_cons_succ, List.setIfInBounds_toArray, List.set_cons_zero, List.set_cons_succ]
    refine ⟨_, ?_, rfl, Or.inl ⟨by rfl, fun wq hSw => Uniform.UStep.call (w' := wq) ?_ ((G1.out wq hSw.2.2.2.2.2.2.1).mono ?_)⟩, ?_⟩
    rotate_left
    · obtain ⟨q0, q1, q2, q3, q4, q5, q6, q7, q8⟩ := hSw
      go_simp
      first | done | rfl | exact ⟨⟨rfl, rfl⟩, rfl⟩ | exact ⟨rfl, rfl⟩
    · have hSk := hSw
      obtain ⟨q0, q1, q2, q3, q4, q5, q6, q7, q8⟩ := hSw
      rintro e wq2 ⟨rfl, hbq⟩
      refine ⟨?_, (hbq.block _ (lt_row q0)).trans q0, (hbq.block _ (lt_row q1)).trans q1, (hbq.block _ (lt_row q2)).trans q2, (hbq.block _ (lt_row q3)).trans q3, (hbq.block _ (lt_row q4)).trans q4, (hbq.block _ (lt_row q5)).trans q5, q6.below hbq, q7.below hbq, q8.trans (hbq.mono q8.size)⟩
      rfl
    simp only [Act.put, List.getElem_toArray, List.getElem_cons_zero, List.getElem_cons_succ, List.setIfInBounds_toArray, List.set_cons_zero, List.set_cons_succ]
    refine ⟨_, _, rfl, Or.inl ⟨by rfl, fun wq hSw => Uniform.UStep.value (w' := wq) (EqHash.exec_load_row 39 _ rfl _ rfl hSw.1 Tryz.underlying39 rfl HpS.out) hSw⟩, ?_⟩
    simp only [Act.put, List.getElem_toArray, List.getElem_cons_zero, List.getElem_cons_succ, List.setIfInBounds_toArray, List.set_cons_zero, List.set_cons_succ]
    refine ⟨_, ?_, rfl, Or.inl ⟨by rfl, fun wq hSw => Uniform.UStep.call (w' := wq) ?_ ((G2.out wq hSw.2.2.2.2.2.2.1).mono ?_)⟩, ?_⟩
    rotate_left
    · obtain ⟨q0, q1, q2, q3, q4, q5, q6, q7, q8⟩ := hSw
      go_simp
      first | done | rfl | exact ⟨⟨rfl, rfl⟩, rfl⟩ | exact ⟨rfl, rfl⟩
    · have hSk := hSw
      obtain ⟨q0, q1, q2, q3, q4, q5, q6, q7, q8⟩ := hSw
      rintro e wq2 ⟨rfl, hbq⟩
      refine ⟨?_, (hbq.block _ (lt_row q0)).trans q0, (hbq.block _ (lt_row q1)).trans q1, (hbq.block _ (lt_row q2)).trans q2, (hbq.block _ (lt_row q3)).trans q3, (hbq.block _ (lt_row q4)).trans q4, (hbq.block _ (lt_row q5)).trans q5, q6.below hbq, q7.below hbq, q8.trans (hbq.mono q8.size)⟩
      rfl
    simp only [Act.put, List.getElem_toArray, List.getElem_cons_zero, List.getElem_cons_succ, List.setIfInBounds_toArray, List.set_cons_zero, List.set_cons_succ]
    refine ⟨_, ?_, rfl, Or.inl ⟨by rfl, fun wq hSw => Uniform.UStep.value (w' := wq) ?_ hSw⟩, ?_⟩
    rotate_left
    · obtain ⟨q0, q1, q2, q3, q4, q5, q6, q7, q8⟩ := hSw
      go_simp
      rfl
    simp only [Act.put, List.getElem_toArray, List.getElem_cons_zero, List.getElem_cons_succ, List.setIfInBounds_toArray, List.set_cons_zero, List.set_cons_succ]
    refine ⟨_, ?_, rfl, Or.inl ⟨by rfl, fun wq hSw => Uniform.UStep.value (w' := wq) ?_ hSw⟩, ?_⟩
    rotate_left
    · obtain ⟨q0, q1, q2, q3, q4, q5, q6, q7, q8⟩ := hSw
      go_simp
      rfl
    simp only [Act.put, List.getElem_toArray, List.getElem_cons_zero, List.getElem_cons_succ, List.setIfInBounds_toArray, List.set_cons_zero, List.set_cons_succ]
    refine ⟨_, ?_, rfl, Or.inl ⟨by rfl, fun wq hSw => Uniform.UStep.value (w' := wq) ?_ hSw⟩, ?_⟩
    rotate_left
    · obtain ⟨q0, q1, q2, q3, q4, q5, q6, q7, q8⟩ := hSw
      go_simp
      rfl
    simp only [Act.put, List.getElem_toArray, List.getElem_cons_zero, List.getElem_cons_succ, List.setIfInBounds_toArray, List.set_cons_zero, List.set_cons_succ]
    refine ⟨_, ?_, rfl, Or.inl ⟨by rfl, fun wq hSw => Uniform.UStep.value (w' := wq) ?_ hSw⟩, ?_⟩
    rotate_left
    · obtain ⟨q0, q1, q2, q3, q4, q5, q6, q7, q8⟩ := hSw
      go_simp
      rfl
    simp only [Act.put, List.getElem_toArray, List.getElem_cons_zero, List.getElem_cons_succ, List.setIfInBounds_toArray, List.set_cons_zero, List.set_cons_succ]
    refine ⟨_, ?_, rfl, Or.inl ⟨by rfl, fun wq hSw => Uniform.UStep.value (w' := wq) ?_ hSw⟩, ?_⟩
    rotate_left
    · obtain ⟨q0, q1, q2, q3, q4, q5, q6, q7, q8⟩ := hSw
      go_simp
      rfl
    simp only [Act.put, List.getElem_toArray, List.getElem_cons_zero, List.getElem_cons_succ, List.setIfInBounds_toArray, List.set_cons_zero, List.set_cons_succ]
    refine ⟨_, ?_, rfl, Or.inl ⟨by rfl, fun wq hSw => Uniform.UStep.value (w' := wq) ?_ hSw⟩, ?_⟩
    rotate_left
    · obtain ⟨q0, q1, q2, q3, q4, q5, q6, q7, q8⟩ := hSw
      go_simp
      rfl
    simp only [Act.put, List.getElem_toArray, List.getElem_cons_zero, List.getElem_cons_succ, List.setIfInBounds_toArray, List.set_cons_zero, List.set_cons_succ]
    refine ⟨_, ?_, rfl, Or.inl ⟨by rfl, fun wq hSw => Uniform.UStep.value (w' := wq) ?_ hSw⟩, ?_⟩
    rotate_left
    · obtain ⟨q0, q1, q2, q3, q4, q5, q6, q7, q8⟩ := hSw
      go_simp
      rfl
    simp only [Act.put, List.getElem_toArray, List.getElem_cons_zero, List.getElem_cons_succ, List.setIfInBounds_toArray, List.set_cons_zero, List.set_cons_succ]
    refine ⟨_, ?_, rfl, Or.inl ⟨by rfl, fun wq hSw => Uniform.UStep.value (w' := wq) ?_ hSw⟩, ?_⟩
    rotate_left
    · obtain ⟨q0, q1, q2, q3, q4, q5, q6, q7, q8⟩ := hSw
      go_simp
      rfl
    simp only [Act.put, List.getElem_toArray, List.getElem_cons_zero, List.getElem_cons_succ, List.setIfInBounds_toArray, List.set_cons_zero, List.set_cons_succ]
    refine ⟨_, ?_, rfl, Or.inl ⟨by rfl, fun wq hSw => Uniform.UStep.value (w' := wq) ?_ hSw⟩, ?_⟩
    rotate_left
    · obtain ⟨q0, q1, q2, q3, q4, q5, q6, q7, q8⟩ := hSw
      go_simp
      rfl
    simp only [Act.put, List.getElem_toArray, List.getElem_cons_zero, List.getElem_cons_succ, List.setIfInBounds_toArray, List.set_cons_zero, List.set_cons_succ]
    refine ⟨_, ?_, rfl, Or.inl ⟨by rfl, fun wq hSw => Uniform.UStep.value (w' := wq) ?_ hSw⟩, ?_⟩
    rotate_left
    · obtain ⟨q0, q1, q2, q3, q4, q5, q6, q7, q8⟩ := hSw
      go_simp
      rfl
    simp only [Act.put, List.getElem_toArray, List.getElem_cons_zero, List.getElem_cons_succ, List.setIfInBounds_toArray, List.set_cons_zero, List.set_cons_succ]
    refine ⟨_, ?_, rfl, Or.inl ⟨by rfl, fun wq hSw => Uniform.UStep.value (w' := wq) ?_ hSw⟩, ?_⟩
    rotate_left
    · obtain ⟨q0, q1, q2, q3, q4, q5, q6, q7, q8⟩ := hSw
      go_simp
      rfl
    simp only [Act.put, List.getElem_toArray, List.getElem_cons_zero, List.getElem_cons_succ, List.setIfInBounds_toArray, List.set_cons_zero, List.set_cons_succ]
    refine ⟨_, ?_, rfl, Or.inl ⟨by rfl, fun wq hSw => Uniform.UStep.value (w' := wq) ?_ hSw⟩, ?_⟩
    rotate_left
    · obtain ⟨q0, q1, q2, q3, q4, q5, q6, q7, q8⟩ := hSw
      go_simp
      rfl
    simp only [Act.put, List.getElem_toArray, List.getElem_cons_zero, List.getElem_cons_succ, List.setIfInBounds_toArray, List.set_cons_zero, List.set_cons_succ]
    refine ⟨_, ?_, rfl, Or.inl ⟨by rfl, fun wq hSw => Uniform.UStep.value (w' := wq) ?_ hSw⟩, ?_⟩
    rotate_left
    · obtain ⟨q0, q1, q2, q3, q4, q5, q6, q7, q8⟩ := hSw
      go_simp
      rfl
    simp only [Act.put, List.getElem_toArray, List.getElem_cons_zero, List.getElem_cons_succ, List.setIfInBounds_toArray, List.set_cons_zero, List.set_cons_succ]
    refine ⟨_, ?_, rfl, Or.inl ⟨by rfl, fun wq hSw => Uniform.UStep.value (w' := wq) ?_ hSw⟩, ?_⟩
    rotate_left
    · obtain ⟨q0, q1, q2, q3, q4, q5, q6, q7, q8⟩ := hSw
      go_simp
      rfl
    simp only [Act.put, List.getElem_toArray, List.getElem_cons_zero, List.getElem_cons_succ, List.setIfInBounds_toArray, List.set_cons_zero, List.set_cons_succ]
    refine ⟨_, ?_, rfl, Or.inl ⟨by rfl, fun wq hSw => Uniform.UStep.value (w' := wq) ?_ hSw⟩, ?_⟩
    rotate_left
    · obtain ⟨q0, q1, q2, q3, q4, q5, q6, q7, q8⟩ := hSw
      go_simp
      rfl
    simp only [Act.put, List.getElem_toArray, List.getElem_cons_zero, List.getElem_cons_succ, List.setIfInBounds_toArray, List.set_cons_zero, List.set_cons_succ]
    refine ⟨_, ?_, rfl, Or.inl ⟨by rfl, fun wq hSw => Uniform.UStep.value (w' := wq) ?_ hSw⟩, ?_⟩
    rotate_left
    · obtain ⟨q0, q1, q2, q3, q4, q5, q6, q7, q8⟩ := hSw
      go_simp
      rfl
    simp only [Act.put, List.getElem_toArray, List.getElem_cons_zero, List.getElem_cons_succ, List.setIfInBounds_toArray, List.set_cons_zero, List.set_cons_succ]
    refine ⟨_, ?_, rfl, Or.inl ⟨by rfl, fun wq hSw => Uniform.UStep.value (w' := wq) ?_ hSw⟩, ?_⟩
    rotate_left
    · obtain ⟨q0, q1, q2, q3, q4, q5, q6, q7, q8⟩ := hSw
      go_simp
      rfl
    simp only [Act.put, List.getElem_toArray, List.getElem_cons_zero, List.getElem_cons_succ, List.setIfInBounds_toArray, List.set_cons_zero, List.set_cons_succ]
    refine ⟨_, ?_, rfl, Or.inl ⟨by rfl, fun wq hSw => Uniform.UStep.value (w' := wq) ?_ hSw⟩, ?_⟩
    rotate_left
    · obtain ⟨q0, q1, q2, q3, q4, q5, q6, q7, q8⟩ := hSw
      go_simp
      rfl
    simp only [Act.put, List.getElem_toArray, List.getElem_cons_zero, List.getElem_cons_succ, List.setIfInBounds_toArray, List.set_cons_zero, List.set_cons_succ]
    refine ⟨_, ?_, rfl, Or.inl ⟨by rfl, fun wq hSw => Uniform.UStep.value (w' := wq) ?_ hSw⟩, ?_⟩
    rotate_left
    · obtain ⟨q0, q1, q2, q3, q4, q5, q6, q7, q8⟩ := hSw
      go_simp
      rfl
    simp only [Act.put, List.getElem_toArray, List.getElem_cons_zero, List.getElem_cons_succ, List.setIfInBounds_toArray, List.set_cons_zero, List.set_cons_succ]
    refine ⟨_, ?_, rfl, Or.inl ⟨by rfl, fun wq hSw => Uniform.UStep.value (w' := wq) ?_ hSw⟩, ?_⟩
    rotate_left
    · obtain ⟨q0, q1, q2, q3, q4, q5, q6, q7, q8⟩ := hSw
      go_simp
      rfl
    simp only [Act.put, List.getElem_toArray, List.getElem_cons_zero, List.getElem_cons_succ, List.setIfInBounds_toArray, List.set_cons_zero, List.set_cons_succ]
    refine ⟨_, ?_, rfl, Or.inl ⟨by rfl, fun wq hSw => Uniform.UStep.value (w' := wq) ?_ hSw⟩, ?_⟩
    rotate_left
    · obtain ⟨q0, q1, q2, q3, q4, q5, q6, q7, q8⟩ := hSw
      go_simp
      rfl
    simp only [Act.put, List.getElem_toArray, List.getElem_cons_zero, List.getElem_cons_succ, List.setIfInBounds_toArray, List.set_cons_zero, List.set_cons_succ]
    refine ⟨_, ?_, rfl, Or.inl ⟨by rfl, fun wq hSw => Uniform.UStep.value (w' := wq) ?_ hSw⟩, ?_⟩
    rotate_left
    · obtain ⟨q0, q1, q2, q3, q4, q5, q6, q7, q8⟩ := hSw
      go_simp
      rfl
    simp only [Act.put, List.getElem_toArray, List.getElem_cons_zero, List.getElem_cons_succ, List.setIfInBounds_toArray, List.set_cons_zero, List.set_cons_succ]
    refine ⟨_, ?_, rfl, Or.inl ⟨by rfl, fun wq hSw => Uniform.UStep.value (w' := wq) ?_ hSw⟩, ?_⟩
    rotate_left
    · obtain ⟨q0, q1, q2, q3, q4, q5, q6, q7, q8⟩ := hSw
      go_simp
      rfl
    simp only [Act.put, List.getElem_toArray, List.getElem_cons_zero, List.getElem_cons_succ, List.setIfInBounds_toArray, List.set_cons_zero, List.set_cons_succ]
    refine ⟨_, _, rfl, Or.inl ⟨by rfl, fun wq hSw => Uniform.UStep.value (w' := wq) (EqHash.exec_load_row 39 _ rfl _ rfl hSw.2.2.1 Tryz.underlying39 rfl HXS.out) hSw⟩, ?_⟩
    simp only [Act.put, List.getElem_toArray, List.getElem_cons_zero, List.getElem_cons_succ, List.setIfInBounds_toArray, List.set_cons_zero, List.set_cons_succ]
    refine ⟨_, _, rfl, Or.inl ⟨by rfl, fun wq hSw => Uniform.UStep.value (w' := wq) (EqHash.exec_load_row 39 _ rfl _ rfl hSw.2.2.2.1 Tryz.underlying39 rfl HXS.out) hSw⟩, ?_⟩
    simp only [Act.put, List.getElem_toArray, List.getElem_cons_zero, List.getElem_cons_succ, List.setIfInBounds_toArray, List.set_cons_zero, List.set_cons_succ]
    refine ⟨_, ?_, rfl, Or.inl ⟨by rfl, fun wq hSw => Uniform.UStep.value (w' := wq) ?_ hSw⟩, ?_⟩
    rotate_left
    · obtain ⟨q0, q1, q2, q3, q4, q5, q6, q7, q8⟩ := hSw
      go_simp
      rfl
    simp only [Act.put, List.getElem_toArray, List.getElem_cons_zero, List.getElem_cons_succ, List.setIfInBounds_toArray, List.set_cons_zero, List.set_cons_succ]
    refine ⟨_, ?_, rfl, Or.inl ⟨by rfl, fun wq hSw => Uniform.UStep.value (w' := wq) ?_ hSw⟩, ?_⟩
    rotate_left
    · obtain ⟨q0, q1, q2, q3, q4, q5, q6, q7, q8⟩ := hSw
      go_simp
      rfl
    simp only [Act.put, List.getElem_toArray, List.getElem_cons_zero, List.getElem_cons_succ, List.setIfInBounds_toArray, List.set_cons_zero, List.set_cons_succ]
    refine ⟨_, ?_, rfl, Or.inl ⟨by rfl, fun wq hSw => Uniform.UStep.value (w' := wq) ?_ hSw⟩, ?_⟩
    rotate_left
    · obtain ⟨q0, q1, q2, q3, q4, q5, q6, q7, q8⟩ := hSw
      go_simp
      rfl
    simp only [Act.put, List.getElem_toArray, List.getElem_cons_zero, List.getElem_cons_succ, List.setIfInBounds_toArray, List.set_cons_zero, List.set_cons_succ]
    refine ⟨_, ?_, rfl, Or.inl ⟨by rfl, fun wq hSw => Uniform.UStep.value (w' := wq) ?_ hSw⟩, ?_⟩
    rotate_left
    · obtain ⟨q0, q1, q2, q3, q4, q5, q6, q7, q8⟩ := hSw
      go_simp
      rfl
    simp only [Act.put, List.getElem_toArray, List.getElem_cons_zero, List.getElem_cons_succ, List.setIfInBounds_toArray, List.set_cons_zero, List.set_cons_succ]
    refine ⟨_, ?_, rfl, Or.inl ⟨by rfl, fun wq hSw => Uniform.UStep.value (w' := wq) ?_ hSw⟩, ?_⟩
    rotate_left
    · obtain ⟨q0, q1, q2, q3, q4, q5, q6, q7, q8⟩ := hSw
      go_simp
      rfl
    simp only [Act.put, List.getElem_toArray, List.getElem_cons_zero, List.getElem_cons_succ, List.setIfInBounds_toArray, List.set_cons_zero, List.set_cons_succ]
    refine ⟨_, ?_, rfl, Or.inl ⟨by rfl, fun wq hSw => Uniform.UStep.value (w' := wq) ?_ hSw⟩, ?_⟩
    rotate_left
    · obtain ⟨q0, q1, q2, q3, q4, q5, q6, q7, q8⟩ := hSw
      go_simp
      rfl
    simp only [Act.put, List.getElem_toArray, List.getElem_cons_zero, List.getElem_cons_succ, List.setIfInBounds_toArray, List.set_cons_zero, List.set_cons_succ]
    refine ⟨_, ?_, rfl, Or.inl ⟨by rfl, fun wq hSw => Uniform.UStep.value (w' := wq) ?_ hSw⟩, ?_⟩
    rotate_left
    · obtain ⟨q0, q1, q2, q3, q4, q5, q6, q7, q8⟩ := hSw
      go_simp
      rfl
    simp only [Act.put, List.getElem_toArray, List.getElem_cons_zero, List.getElem_cons_succ, List.setIfInBounds_toArray, List.set_cons_zero, List.set_cons_succ]
    refine ⟨_, ?_, rfl, Or.inl ⟨by rfl, fun wq hSw => Uniform.UStep.value (w' := wq) ?_ hSw⟩, ?_⟩
    rotate_left
    · obtain ⟨q0, q1, q2, q3, q4, q5, q6, q7, q8⟩ := hSw
      go_simp
      rfl
    simp only [Act.put, List.getElem_toArray, List.getElem_cons_zero, List.getElem_cons_succ, List.setIfInBounds_toArray, List.set_cons_zero, List.set_cons_succ]
    refine ⟨_, _, rfl, Or.inl ⟨by rfl, fun wq hSw => Uniform.UStep.value (w' := wq) (EqHash.exec_load_row 39 _ rfl _ rfl hSw.2.2.2.2.1 Tryz.underlying39 rfl HFS.out) hSw⟩, ?_⟩
    simp only [Act.put, List.getElem_toArray, List.getElem_cons_zero, List.getElem_cons_succ, List.setIfInBounds_toArray, List.set_cons_zero, List.set_cons_succ]
    refine ⟨_, _, rfl, Or.inl ⟨by rfl, fun wq hSw => Uniform.UStep.value (w' := wq) (EqHash.exec_load_row 39 _ rfl _ rfl hSw.2.2.2.2.2.1 Tryz.underlying39 rfl HFS.out) hSw⟩, ?_⟩
    simp only [Act.put, List.getElem_toArray, List.getElem_cons_zero, List.getElem_cons_succ, List.setIfInBounds_toArray, List.set_cons_zero, List.set_cons_succ]
    refine ⟨_, ?_, rfl, Or.inl ⟨by rfl, fun wq hSw => Uniform.UStep.value (w' := wq) ?_ hSw⟩, ?_⟩
    rotate_left
    · obtain ⟨q0, q1, q2, q3, q4, q5, q6, q7, q8⟩ := hSw
      go_simp
      rfl
    simp only [Act.put, List.getElem_toArray, List.getElem_cons_zero, List.getElem_cons_succ, List.setIfInBounds_toArray, List.set_cons_zero, List.set_cons_succ]
    refine ⟨_, ?_, rfl, Or.inl ⟨by rfl, fun wq hSw => Uniform.UStep.value (w' := wq) ?_ hSw⟩, ?_⟩
    rotate_left
    · obtain ⟨q0, q1, q2, q3, q4, q5, q6, q7, q8⟩ := hSw
      go_simp
      rfl
    simp only [Act.put, List.getElem_toArray, List.getElem_cons_zero, List.getElem_cons_succ, List.setIfInBounds_toArray, List.set_cons_zero, List.set_cons_succ]
    refine ⟨_, ?_, rfl, Or.inl ⟨by rfl, fun wq hSw => Uniform.UStep.value (w' := wq) ?_ hSw⟩, ?_⟩
    rotate_left
    · obtain ⟨q0, q1, q2, q3, q4, q5, q6, q7, q8⟩ := hSw
      go_simp
      rfl
    simp only [Act.put, List.getElem_toArray, List.getElem_cons_zero, List.getElem_cons_succ, List.setIfInBounds_toArray, List.set_cons_zero, List.set_cons_succ]
    refine ⟨_, ?_, rfl, Or.inl ⟨by rfl, fun wq hSw => Uniform.UStep.value (w' := wq) ?_ hSw⟩, ?_⟩
    rotate_left
    · obtain ⟨q0, q1, q2, q3, q4, q5, q6, q7, q8⟩ := hSw
      go_simp
      rfl
    simp only [Act.put, List.getElem_toArray, List.getElem_cons_zero, List.getElem_cons_succ, List.setIfInBounds_toArray, List.set_cons_zero, List.set_cons_succ]
    refine ⟨_, ?_, rfl, Or.inl ⟨by rfl, fun wq hSw => Uniform.UStep.value (w' := wq) ?_ hSw⟩, ?_⟩
    rotate_left
    · obtain ⟨q0, q1, q2, q3, q4, q5, q6, q7, q8⟩ := hSw
      go_simp
      rfl
    simp only [Act.put, List.getElem_toArray, List.getElem_cons_zero, List.getElem_cons_succ, List.setIfInBounds_toArray, List.set_cons_zero, List.set_cons_succ]
    refine ⟨_, ?_, rfl, Or.inl ⟨by rfl, fun wq hSw => Uniform.UStep.value (w' := wq) ?_ hSw⟩, ?_⟩
    rotate_left
    · obtain ⟨q0, q1, q2, q3, q4, q5, q6, q7, q8⟩ := hSw
      go_simp
      rfl
    simp only [Act.put, List.getElem_toArray, List.getElem_cons_zero, List.getElem_cons_succ, List.setIfInBounds_toArray, List.set_cons_zero, List.set_cons_succ]
    refine ⟨_, ?_, rfl, Or.inl ⟨by rfl, fun wq hSw => Uniform.UStep.value (w' := wq) ?_ hSw⟩, ?_⟩
    rotate_left
    · obtain ⟨q0, q1, q2, q3, q4, q5, q6, q7, q8⟩ := hSw
      go_simp
      rfl
    simp only [Act.put, List.getElem_toArray, List.getElem_cons_zero, List.getElem_cons_succ, List.setIfInBounds_toArray, List.set_cons_zero, List.set_cons_succ]
    refine ⟨_, ?_, rfl, Or.inl ⟨by rfl, fun wq hSw => Uniform.UStep.value (w' := wq) ?_ hSw⟩, ?_⟩
    rotate_left
    · obtain ⟨q0, q1, q2, q3, q4, q5, q6, q7, q8⟩ := hSw
      go_simp
      rfl
    simp only [Act.put, List.getElem_toArray, List.getElem_cons_zero, List.getElem_cons_succ, List.setIfInBounds_toArray, List.set_cons_zero, List.set_cons_succ]
    refine ⟨_, _, rfl, Or.inl ⟨by rfl, fun wq hSw => Uniform.UStep.value (w' := wq) (EqHash.exec_load_row 39 _ rfl _ rfl hSw.1 Tryz.underlying39 rfl HpS.out) hSw⟩, ?_⟩
    simp only [Act.put, List.getElem_toArray, List.getElem_cons_zero, List.getElem_cons_succ, List.setIfInBounds_toArray, List.set_cons_zero, List.set_cons_succ]
    refine ⟨_, _, rfl, Or.inl ⟨by rfl, fun wq hSw => Uniform.UStep.value (w' := wq) (EqHash.exec_load_row 39 _ rfl _ rfl hSw.2.1 Tryz.underlying39 rfl HqS.out) hSw⟩, ?_⟩
    simp only [Act.put, List.getElem_toArray, List.getElem_cons_zero, List.getElem_cons_succ, List.setIfInBounds_toArray, List.set_cons_zero, List.set_cons_succ]
    refine ⟨_, ?_, rfl, Or.inl ⟨by rfl, fun wq hSw => Uniform.UStep.call (w' := wq) ?_ ((M1.out wq hSw.2.2.2.2.2.2.1).mono ?_)⟩, ?_⟩
    rotate_left
    · obtain ⟨q0, q1, q2, q3, q4, q5, q6, q7, q8⟩ := hSw
      go_simp
      first | done | rfl | exact ⟨⟨rfl, rfl⟩, rfl⟩ | exact ⟨rfl, rfl⟩
    · have hSk := hSw
      obtain ⟨q0, q1, q2, q3, q4, q5, q6, q7, q8⟩ := hSw
      rintro e wq2 ⟨rfl, hbq⟩
      refine ⟨?_, (hbq.block _ (lt_row q0)).trans q0, (hbq.block _ (lt_row q1)).trans q1, (hbq.block _ (lt_row q2)).trans q2, (hbq.block _ (lt_row q3)).trans q3, (hbq.block _ (lt_row q4)).trans q4, (hbq.block _ (lt_row q5)).trans q5, q6.below hbq, q7.below hbq, q8.trans (hbq.mono q8.size)⟩
      rfl
    simp only [Act.put, List.getElem_toArray, List.getElem_cons_zero, List.getElem_cons_succ, List.setIfInBounds_toArray, List.set_cons_zero, List.set_cons_succ]
    refine ⟨_, _, rfl, Or.inl ⟨by rfl, fun wq hSw => Uniform.UStep.value (w' := wq) (EqHash.exec_load_row 39 _ rfl _ rfl hSw.1 Tryz.underlying39 rfl HpS.out) hSw⟩, ?_⟩
    simp only [Act.put, List.getElem_toArray, List.getElem_cons_zero, List.getElem_cons_succ, List.setIfInBounds_toArray, List.set_cons_zero, List.set_cons_succ]
    refine ⟨_, _, rfl, Or.inl ⟨by rfl, fun wq hSw => Uniform.UStep.value (w' := wq) (EqHash.exec_load_row 39 _ rfl _ rfl hSw.2.1 Tryz.underlying39 rfl HqS.out) hSw⟩, ?_⟩
    simp only [Act.put, List.getElem_toArray, List.getElem_cons_zero, List.getElem_cons_succ, List.setIfInBounds_toArray, List.set_cons_zero, List.set_cons_succ]
    refine ⟨_, ?_, rfl, Or.inl ⟨by rfl, fun wq hSw => Uniform.UStep.call (w' := wq) ?_ ((M2.out wq hSw.2.2.2.2.2.2.1).mono ?_)⟩, ?_⟩
    rotate_left
    · obtain ⟨q0, q1, q2, q3, q4, q5, q6, q7, q8⟩ := hSw
      go_simp
      first | done | rfl | exact ⟨⟨rfl, rfl⟩, rfl⟩ | exact ⟨rfl, rfl⟩
    · have hSk := hSw
      obtain ⟨q0, q1, q2, q3, q4, q5, q6, q7, q8⟩ := hSw
      rintro e wq2 ⟨rfl, hbq⟩
      refine ⟨?_, (hbq.block _ (lt_row q0)).trans q0, (hbq.block _ (lt_row q1)).trans q1, (hbq.block _ (lt_row q2)).trans q2, (hbq.block _ (lt_row q3)).trans q3, (hbq.block _ (lt_row q4)).trans q4, (hbq.block _ (lt_row q5)).trans q5, q6.below hbq, q7.below hbq, q8.trans (hbq.mono q8.size)⟩
      rfl
    simp only [Act.put, List.getElem_toArray, List.getElem_cons_zero, List.getElem_cons_succ, List.setIfInBounds_toArray, List.set_cons_zero, List.set_cons_succ]
    refine ⟨_, ?_, rfl, Or.inl ⟨by rfl, fun wq hSw => Uniform.UStep.value (w' := wq) ?_ hSw⟩, ?_⟩
    rotate_left
    · obtain ⟨q0, q1, q2, q3, q4, q5, q6, q7, q8⟩ := hSw
      go_simp
      rfl
    simp only [Act.put, List.getElem_toArray, List.getElem_cons_zero, List.getElem_cons_succ, List.setIfInBounds_toArray, List.set_cons_zero, List.set_cons_succ]
    refine ⟨_, ?_, rfl, Or.inl ⟨by rfl, fun wq hSw => Uniform.UStep.value (w' := wq) ?_ hSw⟩, ?_⟩
    rotate_left
    · obtain ⟨q0, q1, q2, q3, q4, q5, q6, q7, q8⟩ := hSw
      go_simp
      rfl
    simp only [Act.put, List.getElem_toArray, List.getElem_cons_zero, List.getElem_cons_succ, List.setIfInBounds_toArray, List.set_cons_zero, List.set_cons_succ]
    refine ⟨_, ?_, rfl, Or.inl ⟨by rfl, fun wq hSw => Uniform.UStep.value (w' := wq) ?_ hSw⟩, ?_⟩
    rotate_left
    · obtain ⟨q0, q1, q2, q3, q4, q5, q6, q7, q8⟩ := hSw
      go_simp
      rfl
    simp only [Act.put, List.getElem_toArray, List.getElem_cons_zero, List.getElem_cons_succ, List.setIfInBounds_toArray, List.set_cons_zero, List.set_cons_succ]
    intro wz hSz
    obtain ⟨_, _, _, _, _, _, _, _, q8⟩ := hSz
    go_wp2
    go_ret
    exact ⟨rfl, q8⟩

end Go.Proofs.YtdmonfimdinkeaaGreatDoor.DlN
