/-
  WHAT IS PROVED: the statement's function that compares entries with the document's own answers answers true. Condition: the variables hold what 'VarsI' and 'VarsH' say, and the strings are not longer than the theorem says.
-/
import Derived.Test.YtooincpbmlhpbaaGreatDoorEntI
import Derived.Test.YtooincpbmlhpbaaGreatDoorEntZ
import Derived.Test.YtooincpbmlhpbaaGreatDoorWireE
namespace Go.Proofs.YtooincpbmlhpbaaGreatDoor.EntN
open Go Go.RowKit Go.Shelf Go.Proofs.YtooincpbmlhpbaaGreatDoor Go.Proofs.YtooincpbmlhpbaaGreatDoor.OctetS Go.Proofs.YtooincpbmlhpbaaGreatDoor.IdentS Go.Proofs.YtooincpbmlhpbaaGreatDoor.EntS Go.Proofs.YtooincpbmlhpbaaGreatDoor.OctG Go.Proofs.YtooincpbmlhpbaaGreatDoor.IdentP Go.Proofs.YtooincpbmlhpbaaGreatDoor.EntP Go.Proofs.YtooincpbmlhpbaaGreatDoor.EventC Go.Proofs.YtooincpbmlhpbaaGreatDoor.ShaA Go.Proofs.YtooincpbmlhpbaaGreatDoor.Steps Go.Proofs.YtooincpbmlhpbaaGreatDoor.KeyA Go.Proofs.YtooincpbmlhpbaaGreatDoor.EntB Go.Proofs.YtooincpbmlhpbaaGreatDoor.EntQ Go.Proofs.YtooincpbmlhpbaaGreatDoor.EntI Go.Proofs.YtooincpbmlhpbaaGreatDoor.TreeA
set_option linter.unusedVariables false
set_option linter.unusedSimpArgs false
attribute [-go_sem] run_equalIn_agg

theorem eq_hash (x : H32) (w : World) : (Op.equalIn 10000 23 (.agg x.A) (.agg x.A)).run Tryz.prog w = .ok true w := by
  have h : x.A = ShaB.pB 32 x.l := by
    unfold H32.A
    exact EqEnt.pB_of x.len
  rw [h, EqHash.eqHash, EqHash.hEq_self]
theorem read_row (s : ByteArray) : ∃ (X : Array Value) (W : Int) (r : ByteArray) (ep ix : Int) (pv : List UInt8) (e g : ByteArray), EntP X r ep ix pv e g ∧ WireT.entV (WireS.read (bl s)) = .tuple #[.agg X, .int .i64 W] := by
  cases hx : WireS.read (bl s) with
  | none => exact ⟨WireT.entZ, 6, ⟨#[]⟩, 0, 0, WireT.zero32, ⟨#[]⟩, ⟨#[]⟩, ⟨rfl, rfl⟩, rfl⟩
  | some y =>
    obtain ⟨hR, hp, _, _⟩ := read_ok hx
    exact ⟨_, 0, bsOf y.room, y.ep, y.ix, y.prev, bsOf y.ev, bsOf y.sig, rowOf y hp, rfl⟩

set_option maxRecDepth 100000 in
set_option maxHeartbeats 4000000 in
theorem tells_ok (w : World) (hv : VarsI w) (hk : VarsH w) (p : Array Value) (r : ByteArray) (ep ix : Int) (pv : List UInt8) (e sg : ByteArray) (hp : EntP p r ep ix pv e sg) (s : ByteArray) (hr : r.size ≤ 140737488351232) (he : e.size ≤ maxLen) (hs : sg.size ≤ maxLen) (ht : s.size ≤ 140737488351232) :
    Calls Tryz.prog 4 #[.agg p, .string s] w (RB (.bool true) w) := by
  obtain ⟨T1, W1, a1, a2⟩ : ∃ (T : ByteArray) (E : Int), (∀ w, VarsI w → Calls Tryz.prog 9 #[.agg p] w (RB (.tuple #[.string T, .int .i64 E]) w)) ∧ (∀ w, Calls Tryz.prog 10 #[.agg p] w (RB (.tuple #[.string T, .int .i64 E]) w)) := ⟨_, _, fun w hv => Text_ok w p r ep ix pv e sg hp hv hr he hs, fun w => EntR.Text_ok w p r ep ix pv e sg hp hr he hs⟩
  obtain ⟨Cx, W2, b1, b2⟩ : ∃ (C : H32) (E : Int), (∀ w, VarsI w → VarsH w → Calls Tryz.prog 11 #[.agg p] w (RB (.tuple #[.agg C.A, .int .i64 E]) w)) ∧ (∀ w, VarsI w → VarsH w → Calls Tryz.prog 12 #[.agg p] w (RB (.tuple #[.agg C.A, .int .i64 E]) w)) := ⟨_, _, fun w hv hk => EntX.Sum_ok w p r ep ix pv e sg hp hv hk hr he hs, fun w hv hk => EntZ.Sum_ok w p r ep ix pv e sg hp hv hk hr he hs⟩
  obtain ⟨T3, W3, c1, c2⟩ : ∃ (T : ByteArray) (E : Int), (∀ w, VarsI w → Calls Tryz.prog 7 #[.agg p] w (RB (.tuple #[.string T, .int .i64 E]) w)) ∧ (∀ w, VarsI w → Calls Tryz.prog 13 #[.agg p] w (RB (.tuple #[.string T, .int .i64 E]) w)) := ⟨_, _, fun w hv => EntY.Bytes_ok w p r ep ix pv e sg hp hv hr he hs, fun w hv => EntZ.Bytes_ok w p r ep ix pv e sg hp hv hr he hs⟩
  obtain ⟨X, W4, r4, ep4, ix4, pv4, e4, g4, hX, _, _, _, hV4, _⟩ := parse_row s ht
  have d1 := fun w hv => WireB.Parse_ok w s ht hv
  have d2 := fun w => WireE.Parse_ok w s ht
  rw [hV4] at d1 d2
  obtain ⟨Y, W5, r5, ep5, ix5, pv5, e5, g5, hY, hV5⟩ := read_row s
  have f1 := fun w hv => WireB.Read_ok w s ht hv
  have f2 := fun w => WireE.Read_ok w s ht
  rw [hV5] at f1 f2
  obtain ⟨W6, g1, g2⟩ : ∃ (E : Int), (∀ w, VarsI w → Calls Tryz.prog 17 #[.agg p] w (RB (.int .i64 E) w)) ∧ (∀ w, Calls Tryz.prog 18 #[.agg p] w (RB (.int .i64 E) w)) := ⟨_, fun w hv => Check_ok w p r ep ix pv e sg hp hv hr he hs, fun w => EntR.Check_ok w p r ep ix pv e sg hp hr he hs⟩
  have hqX : ∀ w, (Op.equalIn 10000 25 (.agg X) (.agg X)).run Tryz.prog w = .ok true w := fun w => eq_row hX w
  have hqY : ∀ w, (Op.equalIn 10000 25 (.agg Y) (.agg Y)).run Tryz.prog w = .ok true w := fun w => eq_row hY w
  have hqC0 := eq_hash Cx
  obtain ⟨C, hC⟩ : ∃ C, C = Cx.A := ⟨_, rfl⟩
  have hCn : C.size = 32 := by rw [hC]; exact Cx.size
  have HCO := Lib.hid (show C.all (·.oneCell') = true by rw [hC]; exact Cx.one)
  rw [← hC] at b1 b2 hqC0
  have HCS : Hid ((Tryz.prog.info? 23).map (·.size) = some C.size) := Lib.hid (by rw [hCn]; kernel_rfl)
  have HCN : Hid (32 = C.size) := Lib.hid hCn.symm
  have HpS : Hid ((Tryz.prog.info? 25).map (·.size) = some p.size) := Lib.hid (by rw [hp.size]; kernel_rfl)
  have HpN : Hid (37 = p.size) := Lib.hid (hp.size).symm
  have HpO : Hid (p.all (·.oneCell') = true) := Lib.hid (by rw [hp.eq]; exact WireT.entA_one _ _ _ _ _ _)
  have HXS : Hid ((Tryz.prog.info? 25).map (·.size) = some X.size) := Lib.hid (by rw [hX.size]; kernel_rfl)
  have HXN : Hid (37 = X.size) := Lib.hid (hX.size).symm
  have HXO : Hid (X.all (·.oneCell') = true) := Lib.hid (by rw [hX.eq]; exact WireT.entA_one _ _ _ _ _ _)
  have HYS : Hid ((Tryz.prog.info? 25).map (·.size) = some Y.size) := Lib.hid (by rw [hY.size]; kernel_rfl)
  have HYN : Hid (37 = Y.size) := Lib.hid (hY.size).symm
  have HYO : Hid (Y.all (·.oneCell') = true) := Lib.hid (by rw [hY.eq]; exact WireT.entA_one _ _ _ _ _ _)
  have A1 := Lib.hid a1
  have A2 := Lib.hid a2
  have B1 := Lib.hid b1
  have B2 := Lib.hid b2
  have C1 := Lib.hid c1
  have C2 := Lib.hid c2
  have D1 := Lib.hid d1
  have D2 := Lib.hid d2
  have F1 := Lib.hid f1
  have F2 := Lib.hid f2
  have G1 := Lib.hid g1
  have G2 := Lib.hid g2
  have HQX := Lib.hid hqX
  have HQY := Lib.hid hqY
  have HQC := Lib.hid hqC0
  have HGE := Lib.hid EqEnt.guardEnt
  have HGH := Lib.hid EqHash.guardHash
  have HV := Lib.hid hv
  have HK := Lib.hid hk
  clear a1 a2 b1 b2 c1 c2 d1 d2 f1 f2 g1 g2 hqX hqY hqC0 hC hCn hX hY hV4 hV5 hp hr he hs hv hk ht
  obtain ⟨w0, hw0⟩ : ∃ w0, w0 = w.alloc (.cells p 25) := ⟨_, rfl⟩
  have hb0 : Below w.heap.size w w0 := by rw [hw0]; exact (Below.refl _ _).alloc (Nat.le_refl _) _
  have HP0 : Hid (w0.heap[w.heap.size]? = some (.cells p 25 (0, 0))) := Lib.hid (by rw [hw0]; exact heap_new _ _)
  have lP0 := lt_row HP0.out
  have HBL0 := Lib.hid hb0
  have HW0 := Lib.hid hw0
  have z0 := hb0.size
  clear hw0 hb0
  by_cases hbig : 16384 < s.size
  · skip
    go_enter Tryz.func4, Tryz.ntmps4
    go_wp2_with fail
    rw [← HW0.out]
    refine (lives_ok w0 (HV.out.below HBL0.out) (HK.out.below HBL0.out)).mono ?_
    rintro e' w1 ⟨rfl, hb⟩
    have HB1 := Lib.hid (HBL0.out.trans (hb.mono HBL0.out.size))
    clear hb
    go_wp2
    go_ret
    exact ⟨rfl, HB1.out⟩
  · skip
    go_enter Tryz.func4, Tryz.ntmps4
    go_wp2_with (first | (rw [← HW0.out]; refine wpList_load_row rfl _ _ rfl w.heap.size rfl _ p (0, 0) _ HP0.out Tryz.underlying25 rfl HpS.out ?_) | fail)
    refine (A1.out w0 (HV.out.below HBL0.out)).mono ?_
    rintro e' w1 ⟨rfl, hb⟩
    have HP1 := Lib.hid ((hb.block _ lP0).trans HP0.out)
    have lP1 := lt_row HP1.out
    have HBL1 := Lib.hid (HBL0.out.trans (hb.mono HBL0.out.size))
    have z1 := HBL1.out.size
    clear hb z0 lP0
    go_wp2_with (first | (refine wpList_load_row rfl _ _ rfl w.heap.size rfl _ p (0, 0) _ HP1.out Tryz.underlying25 rfl HpS.out ?_) | fail)
    refine (A2.out w1).mono ?_
    rintro e w2 ⟨rfl, hb⟩
    have HP2 := Lib.hid ((hb.block _ lP1).trans HP1.out)
    have lP2 := lt_row HP2.out
    have HBL2 := Lib.hid (HBL1.out.trans (hb.mono HBL1.out.size))
    have z2 := HBL2.out.size
    clear hb z1 lP1
    go_wp2_with (first | (refine wpList_load_row rfl _ _ rfl w.heap.size rfl _ p (0, 0) _ HP2.out Tryz.underlying25 rfl HpS.out ?_) | fail)
    refine (B1.out w2 (HV.out.below HBL2.out) (HK.out.below HBL2.out)).mono ?_
    rintro e w3 ⟨rfl, hb⟩
    have HP3 := Lib.hid ((hb.block _ lP2).trans HP2.out)
    have lP3 := lt_row HP3.out
    have HBL3 := Lib.hid (HBL2.out.trans (hb.mono HBL2.out.size))
    have z3 := HBL3.out.size
    clear hb z2 lP2
    go_wp2_with (first | (refine wpList_store_rowA rfl _ _ _ rfl w3.heap.size C rfl rfl _ _ (heap_new _ _) HCS.out (by rw [← HCN.out]; rfl) HCO.out ?_) | fail)
    intro u1 hu1
    have hb : Below w3.heap.size w3 u1 := by rw [hu1.out]; exact below_row ((Below.refl _ _).alloc (Nat.le_refl _) _) (Nat.le_refl _) _
    have hy : u1.heap[w3.heap.size]? = some (.cells C 23 (0, 0)) := by rw [hu1.out]; exact setRow_at (heap_new _ _)
    clear hu1
    obtain ⟨w4, hww⟩ : ∃ w', w' = u1 := ⟨_, rfl⟩
    rw [← hww] at hb hy ⊢
    clear hww
    obtain ⟨BC, hBC⟩ : ∃ B, B = w3.heap.size := ⟨_, rfl⟩
    rw [← hBC] at hy ⊢
    have gC : w.heap.size ≤ BC := by omega
    clear hBC
    have Hyn := Lib.hid hy
    clear hy
    have HP4 := Lib.hid ((hb.block _ lP3).trans HP3.out)
    have lP4 := lt_row HP4.out
    have HBL4 := Lib.hid (HBL3.out.trans (hb.mono HBL3.out.size))
    have z4 := HBL4.out.size
    clear hb z3 lP3
    have HC4 := Lib.hid Hyn.out
    have lC4 := lt_row HC4.out
    clear Hyn
    go_wp2_with (first | (refine wpList_load_row rfl _ _ rfl w.heap.size rfl _ p (0, 0) _ HP4.out Tryz.underlying25 rfl HpS.out ?_) | fail)
    refine (B2.out w4 (HV.out.below HBL4.out) (HK.out.below HBL4.out)).mono ?_
    rintro e w5 ⟨rfl, hb⟩
    have HP5 := Lib.hid ((hb.block _ lP4).trans HP4.out)
    have lP5 := lt_row HP5.out
    have HC5 := Lib.hid ((hb.block _ lC4).trans HC4.out)
    have lC5 := lt_row HC5.out
    have HBL5 := Lib.hid (HBL4.out.trans (hb.mono HBL4.out.size))
    have z5 := HBL5.out.size
    clear hb z4 lP4 lC4
    go_wp2_with (first | (refine wpList_store_rowA rfl _ _ _ rfl w5.heap.size C rfl rfl _ _ (heap_new _ _) HCS.out (by rw [← HCN.out]; rfl) HCO.out ?_) | fail)
    intro u1 hu1
    have hb : Below w5.heap.size w5 u1 := by rw [hu1.out]; exact below_row ((Below.refl _ _).alloc (Nat.le_refl _) _) (Nat.le_refl _) _
    have hy : u1.heap[w5.heap.size]? = some (.cells C 23 (0, 0)) := by rw [hu1.out]; exact setRow_at (heap_new _ _)
    clear hu1
    obtain ⟨w6, hww⟩ : ∃ w', w' = u1 := ⟨_, rfl⟩
    rw [← hww] at hb hy ⊢
    clear hww
    obtain ⟨BD, hBD⟩ : ∃ B, B = w5.heap.size := ⟨_, rfl⟩
    rw [← hBD] at hy ⊢
    have gD : w.heap.size ≤ BD := by omega
    clear hBD
    have Hyn := Lib.hid hy
    clear hy
    have HP6 := Lib.hid ((hb.block _ lP5).trans HP5.out)
    have lP6 := lt_row HP6.out
    have HC6 := Lib.hid ((hb.block _ lC5).trans HC5.out)
    have lC6 := lt_row HC6.out
    have HBL6 := Lib.hid (HBL5.out.trans (hb.mono HBL5.out.size))
    have z6 := HBL6.out.size
    clear hb z5 lP5 lC5
    have HD6 := Lib.hid Hyn.out
    have lD6 := lt_row HD6.out
    clear Hyn
    go_wp2_with (first | (refine wpList_load_row rfl _ _ rfl w.heap.size rfl _ p (0, 0) _ HP6.out Tryz.underlying25 rfl HpS.out ?_) | fail)
    refine (C1.out w6 (HV.out.below HBL6.out)).mono ?_
    rintro e w7 ⟨rfl, hb⟩
    have HP7 := Lib.hid ((hb.block _ lP6).trans HP6.out)
    have lP7 := lt_row HP7.out
    have HC7 := Lib.hid ((hb.block _ lC6).trans HC6.out)
    have lC7 := lt_row HC7.out
    have HD7 := Lib.hid ((hb.block _ lD6).trans HD6.out)
    have lD7 := lt_row HD7.out
    have HBL7 := Lib.hid (HBL6.out.trans (hb.mono HBL6.out.size))
    have z7 := HBL7.out.size
    clear hb z6 lP6 lC6 lD6
    go_wp2_with (first | (refine wpList_load_row rfl _ _ rfl w.heap.size rfl _ p (0, 0) _ HP7.out Tryz.underlying25 rfl HpS.out ?_) | fail)
    refine (C2.out w7 (HV.out.below HBL7.out)).mono ?_
    rintro e w8 ⟨rfl, hb⟩
    have HP8 := Lib.hid ((hb.block _ lP7).trans HP7.out)
    have lP8 := lt_row HP8.out
    have HC8 := Lib.hid ((hb.block _ lC7).trans HC7.out)
    have lC8 := lt_row HC8.out
    have HD8 := Lib.hid ((hb.block _ lD7).trans HD7.out)
    have lD8 := lt_row HD8.out
    have HBL8 := Lib.hid (HBL7.out.trans (hb.mono HBL7.out.size))
    have z8 := HBL8.out.size
    clear hb z7 lP7 lC7 lD7
    go_wp2_with fail
    refine (D1.out w8 (HV.out.below HBL8.out)).mono ?_
    rintro e w9 ⟨rfl, hb⟩
    have HP9 := Lib.hid ((hb.block _ lP8).trans HP8.out)
    have lP9 := lt_row HP9.out
    have HC9 := Lib.hid ((hb.block _ lC8).trans HC8.out)
    have lC9 := lt_row HC9.out
    have HD9 := Lib.hid ((hb.block _ lD8).trans HD8.out)
    have lD9 := lt_row HD9.out
    have HBL9 := Lib.hid (HBL8.out.trans (hb.mono HBL8.out.size))
    have z9 := HBL9.out.size
    clear hb z8 lP8 lC8 lD8
    go_wp2_with (first | (refine wpList_store_rowA rfl _ _ _ rfl w9.heap.size X rfl rfl _ _ (heap_new _ _) HXS.out (by rw [← HXN.out]; rfl) HXO.out ?_) | fail)
    intro u1 hu1
    have hb : Below w9.heap.size w9 u1 := by rw [hu1.out]; exact below_row ((Below.refl _ _).alloc (Nat.le_refl _) _) (Nat.le_refl _) _
    have hy : u1.heap[w9.heap.size]? = some (.cells X 25 (0, 0)) := by rw [hu1.out]; exact setRow_at (heap_new _ _)
    clear hu1
    obtain ⟨w10, hww⟩ : ∃ w', w' = u1 := ⟨_, rfl⟩
    rw [← hww] at hb hy ⊢
    clear hww
    obtain ⟨BX, hBX⟩ : ∃ B, B = w9.heap.size := ⟨_, rfl⟩
    rw [← hBX] at hy ⊢
    have gX : w.heap.size ≤ BX := by omega
    clear hBX
    have Hyn := Lib.hid hy
    clear hy
    have HP10 := Lib.hid ((hb.block _ lP9).trans HP9.out)
    have lP10 := lt_row HP10.out
    have HC10 := Lib.hid ((hb.block _ lC9).trans HC9.out)
    have lC10 := lt_row HC10.out
    have HD10 := Lib.hid ((hb.block _ lD9).trans HD9.out)
    have lD10 := lt_row HD10.out
    have HBL10 := Lib.hid (HBL9.out.trans (hb.mono HBL9.out.size))
    have z10 := HBL10.out.size
    clear hb z9 lP9 lC9 lD9
    have HX10 := Lib.hid Hyn.out
    have lX10 := lt_row HX10.out
    clear Hyn
    go_wp2_with fail
    refine (D2.out w10).mono ?_
    rintro e w11 ⟨rfl, hb⟩
    have HP11 := Lib.hid ((hb.block _ lP10).trans HP10.out)
    have lP11 := lt_row HP11.out
    have HC11 := Lib.hid ((hb.block _ lC10).trans HC10.out)
    have lC11 := lt_row HC11.out
    have HD11 := Lib.hid ((hb.block _ lD10).trans HD10.out)
    have lD11 := lt_row HD11.out
    have HX11 := Lib.hid ((hb.block _ lX10).trans HX10.out)
    have lX11 := lt_row HX11.out
    have HBL11 := Lib.hid (HBL10.out.trans (hb.mono HBL10.out.size))
    have z11 := HBL11.out.size
    clear hb z10 lP10 lC10 lD10 lX10
    go_wp2_with (first | (refine wpList_store_rowA rfl _ _ _ rfl w11.heap.size X rfl rfl _ _ (heap_new _ _) HXS.out (by rw [← HXN.out]; rfl) HXO.out ?_) | fail)
    intro u1 hu1
    have hb : Below w11.heap.size w11 u1 := by rw [hu1.out]; exact below_row ((Below.refl _ _).alloc (Nat.le_refl _) _) (Nat.le_refl _) _
    have hy : u1.heap[w11.heap.size]? = some (.cells X 25 (0, 0)) := by rw [hu1.out]; exact setRow_at (heap_new _ _)
    clear hu1
    obtain ⟨w12, hww⟩ : ∃ w', w' = u1 := ⟨_, rfl⟩
    rw [← hww] at hb hy ⊢
    clear hww
    obtain ⟨BU, hBU⟩ : ∃ B, B = w11.heap.size := ⟨_, rfl⟩
    rw [← hBU] at hy ⊢
    have gU : w.heap.size ≤ BU := by omega
    clear hBU
    have Hyn := Lib.hid hy
    clear hy
    have HP12 := Lib.hid ((hb.block _ lP11).trans HP11.out)
    have lP12 := lt_row HP12.out
    have HC12 := Lib.hid ((hb.block _ lC11).trans HC11.out)
    have lC12 := lt_row HC12.out
    have HD12 := Lib.hid ((hb.block _ lD11).trans HD11.out)
    have lD12 := lt_row HD12.out
    have HX12 := Lib.hid ((hb.block _ lX11).trans HX11.out)
    have lX12 := lt_row HX12.out
    have HBL12 := Lib.hid (HBL11.out.trans (hb.mono HBL11.out.size))
    have z12 := HBL12.out.size
    clear hb z11 lP11 lC11 lD11 lX11
    have HU12 := Lib.hid Hyn.out
    have lU12 := lt_row HU12.out
    clear Hyn
    go_wp2_with fail
    refine (F1.out w12 (HV.out.below HBL12.out)).mono ?_
    rintro e w13 ⟨rfl, hb⟩
    have HP13 := Lib.hid ((hb.block _ lP12).trans HP12.out)
    have lP13 := lt_row HP13.out
    have HC13 := Lib.hid ((hb.block _ lC12).trans HC12.out)
    have lC13 := lt_row HC13.out
    have HD13 := Lib.hid ((hb.block _ lD12).trans HD12.out)
    have lD13 := lt_row HD13.out
    have HX13 := Lib.hid ((hb.block _ lX12).trans HX12.out)
    have lX13 := lt_row HX13.out
    have HU13 := Lib.hid ((hb.block _ lU12).trans HU12.out)
    have lU13 := lt_row HU13.out
    have HBL13 := Lib.hid (HBL12.out.trans (hb.mono HBL12.out.size))
    have z13 := HBL13.out.size
    clear hb z12 lP12 lC12 lD12 lX12 lU12
    go_wp2_with (first | (refine wpList_store_rowA rfl _ _ _ rfl w13.heap.size Y rfl rfl _ _ (heap_new _ _) HYS.out (by rw [← HYN.out]; rfl) HYO.out ?_) | fail)
    intro u1 hu1
    have hb : Below w13.heap.size w13 u1 := by rw [hu1.out]; exact below_row ((Below.refl _ _).alloc (Nat.le_refl _) _) (Nat.le_refl _) _
    have hy : u1.heap[w13.heap.size]? = some (.cells Y 25 (0, 0)) := by rw [hu1.out]; exact setRow_at (heap_new _ _)
    clear hu1
    obtain ⟨w14, hww⟩ : ∃ w', w' = u1 := ⟨_, rfl⟩
    rw [← hww] at hb hy ⊢
    clear hww
    obtain ⟨BY, hBY⟩ : ∃ B, B = w13.heap.size := ⟨_, rfl⟩
    rw [← hBY] at hy ⊢
    have gY : w.heap.size ≤ BY := by omega
    clear hBY
    have Hyn := Lib.hid hy
    clear hy
    have HP14 := Lib.hid ((hb.block _ lP13).trans HP13.out)
    have lP14 := lt_row HP14.out
    have HC14 := Lib.hid ((hb.block _ lC13).trans HC13.out)
    have lC14 := lt_row HC14.out
    have HD14 := Lib.hid ((hb.block _ lD13).trans HD13.out)
    have lD14 := lt_row HD14.out
    have HX14 := Lib.hid ((hb.block _ lX13).trans HX13.out)
    have lX14 := lt_row HX14.out
    have HU14 := Lib.hid ((hb.block _ lU13).trans HU13.out)
    have lU14 := lt_row HU14.out
    have HBL14 := Lib.hid (HBL13.out.trans (hb.mono HBL13.out.size))
    have z14 := HBL14.out.size
    clear hb z13 lP13 lC13 lD13 lX13 lU13
    have HY14 := Lib.hid Hyn.out
    have lY14 := lt_row HY14.out
    clear Hyn
    go_wp2_with fail
    refine (F2.out w14).mono ?_
    rintro e w15 ⟨rfl, hb⟩
    have HP15 := Lib.hid ((hb.block _ lP14).trans HP14.out)
    have lP15 := lt_row HP15.out
    have HC15 := Lib.hid ((hb.block _ lC14).trans HC14.out)
    have lC15 := lt_row HC15.out
    have HD15 := Lib.hid ((hb.block _ lD14).trans HD14.out)
    have lD15 := lt_row HD15.out
    have HX15 := Lib.hid ((hb.block _ lX14).trans HX14.out)
    have lX15 := lt_row HX15.out
    have HU15 := Lib.hid ((hb.block _ lU14).trans HU14.out)
    have lU15 := lt_row HU15.out
    have HY15 := Lib.hid ((hb.block _ lY14).trans HY14.out)
    have lY15 := lt_row HY15.out
    have HBL15 := Lib.hid (HBL14.out.trans (hb.mono HBL14.out.size))
    have z15 := HBL15.out.size
    clear hb z14 lP14 lC14 lD14 lX14 lU14 lY14
    go_wp2_with (first | (refine wpList_store_rowA rfl _ _ _ rfl w15.heap.size Y rfl rfl _ _ (heap_new _ _) HYS.out (by rw [← HYN.out]; rfl) HYO.out ?_) | fail)
    intro u1 hu1
    have hb : Below w15.heap.size w15 u1 := by rw [hu1.out]; exact below_row ((Below.refl _ _).alloc (Nat.le_refl _) _) (Nat.le_refl _) _
    have hy : u1.heap[w15.heap.size]? = some (.cells Y 25 (0, 0)) := by rw [hu1.out]; exact setRow_at (heap_new _ _)
    clear hu1
    obtain ⟨w16, hww⟩ : ∃ w', w' = u1 := ⟨_, rfl⟩
    rw [← hww] at hb hy ⊢
    clear hww
    obtain ⟨BZ, hBZ⟩ : ∃ B, B = w15.heap.size := ⟨_, rfl⟩
    rw [← hBZ] at hy ⊢
    have gZ : w.heap.size ≤ BZ := by omega
    clear hBZ
    have Hyn := Lib.hid hy
    clear hy
    have HP16 := Lib.hid ((hb.block _ lP15).trans HP15.out)
    have lP16 := lt_row HP16.out
    have HC16 := Lib.hid ((hb.block _ lC15).trans HC15.out)
    have lC16 := lt_row HC16.out
    have HD16 := Lib.hid ((hb.block _ lD15).trans HD15.out)
    have lD16 := lt_row HD16.out
    have HX16 := Lib.hid ((hb.block _ lX15).trans HX15.out)
    have lX16 := lt_row HX16.out
    have HU16 := Lib.hid ((hb.block _ lU15).trans HU15.out)
    have lU16 := lt_row HU16.out
    have HY16 := Lib.hid ((hb.block _ lY15).trans HY15.out)
    have lY16 := lt_row HY16.out
    have HBL16 := Lib.hid (HBL15.out.trans (hb.mono HBL15.out.size))
    have z16 := HBL16.out.size
    clear hb z15 lP15 lC15 lD15 lX15 lU15 lY15
    have HZ16 := Lib.hid Hyn.out
    have lZ16 := lt_row HZ16.out
    clear Hyn
    go_wp2_with fail
    have hqX := HQX.out
    have hqY := HQY.out
    have hqC := HQC.out
    have hGE := HGE.out
    have hGH := HGH.out
    have HVk := Lib.hid (HV.out.below HBL16.out)
    have HKk := Lib.hid (HK.out.below HBL16.out)
    refine Uniform.region_chain (S := (fun W => W.heap[w.heap.size]? = some (.cells p 25 (0, 0)) ∧ W.heap[BC]? = some (.cells C 23 (0, 0)) ∧ W.heap[BD]? = some (.cells C 23 (0, 0)) ∧ W.heap[BX]? = some (.cells X 25 (0, 0)) ∧ W.heap[BU]? = some (.cells X 25 (0, 0)) ∧ W.heap[BY]? = some (.cells Y 25 (0, 0)) ∧ W.heap[BZ]? = some (.cells Y 25 (0, 0)) ∧ VarsI W ∧ VarsH W ∧ Below w.heap.size w W)) (List.range 59) (by kernel_rfl) (by kernel_rfl) ⟨HP16.out, HC16.out, HD16.out, HX16.out, HU16.out, HY16.out, HZ16.out, (HVk.out).below (Bl.drew (Below.refl _ _)), (HKk.out).below (Bl.drew (Below.refl _ _)), (HBL16.out).drew⟩ ?_
    refine ⟨_, ?_, rfl, Or.inl ⟨by rfl, fun wq hSw => Uniform.UStep.call (w' := wq) ?_ ((lives_ok wq hSw.2.2.2.2.2.2.2.1 hSw.2.2.2.2.2.2.2.2.1).mono ?_)⟩, ?_⟩
    rotate_left
    · obtain ⟨q0, q1, q2, q3, q4, q5, q6, q7, q8, q9⟩ := hSw
      go_simp
      first | done | rfl | exact ⟨⟨rfl, rfl⟩, rfl⟩ | exact ⟨rfl, rfl⟩
    · have hSk := hSw
      obtain ⟨q0, q1, q2, q3, q4, q5, q6, q7, q8, q9⟩ := hSw
      rintro e wq2 ⟨rfl, hbq⟩
      refine ⟨?_, (hbq.block _ (lt_row q0)).trans q0, (hbq.block _ (lt_row q1)).trans q1, (hbq.block _ (lt_row q2)).trans q2, (hbq.block _ (lt_row q3)).trans q3, (hbq.block _ (lt_row q4)).trans q4, (hbq.block _ (lt_row q5)).trans q5, (hbq.block _ (lt_row q6)).trans q6, q7.below hbq, q8.below hbq, q9.trans (hbq.mono q9.size)⟩
      rfl
    simp only [Act.put, sx1, sx2, sx3, sx4, sx5, sx6]
    refine ⟨_, ?_, rfl, Or.inl ⟨by rfl, fun wq hSw => Uniform.UStep.value (w' := wq) ?_ hSw⟩, ?_⟩
    rotate_left
    · obtain ⟨q0, q1, q2, q3, q4, q5, q6, q7, q8, q9⟩ := hSw
      go_simp
      rfl
    simp only [Act.put, sx1, sx2, sx3, sx4, sx5, sx6]
    refine ⟨_, _, rfl, Or.inl ⟨by rfl, fun wq hSw => Uniform.UStep.value (w' := wq) (EqHash.exec_load_row 25 _ rfl _ rfl hSw.1 Tryz.underlying25 rfl HpS.out) hSw⟩, ?_⟩
    simp only [Act.put, sx1, sx2, sx3, sx4, sx5, sx6]
    refine ⟨_, ?_, rfl, Or.inl ⟨by rfl, fun wq hSw => Uniform.UStep.call (w' := wq) ?_ ((G1.out wq hSw.2.2.2.2.2.2.2.1).mono ?_)⟩, ?_⟩
    rotate_left
    · obtain ⟨q0, q1, q2, q3, q4, q5, q6, q7, q8, q9⟩ := hSw
      go_simp
      first | done | rfl | exact ⟨⟨rfl, rfl⟩, rfl⟩ | exact ⟨rfl, rfl⟩
    · have hSk := hSw
      obtain ⟨q0, q1, q2, q3, q4, q5, q6, q7, q8, q9⟩ := hSw
      rintro e wq2 ⟨rfl, hbq⟩
      refine ⟨?_, (hbq.block _ (lt_row q0)).trans q0, (hbq.block _ (lt_row q1)).trans q1, (hbq.block _ (lt_row q2)).trans q2, (hbq.block _ (lt_row q3)).trans q3, (hbq.block _ (lt_row q4)).trans q4, (hbq.block _ (lt_row q5)).trans q5, (hbq.block _ (lt_row q6)).trans q6, q7.below hbq, q8.below hbq, q9.trans (hbq.mono q9.size)⟩
      rfl
    simp only [Act.put, sx1, sx2, sx3, sx4, sx5, sx6]
    refine ⟨_, _, rfl, Or.inl ⟨by rfl, fun wq hSw => Uniform.UStep.value (w' := wq) (EqHash.exec_load_row 25 _ rfl _ rfl hSw.1 Tryz.underlying25 rfl HpS.out) hSw⟩, ?_⟩
    simp only [Act.put, sx1, sx2, sx3, sx4, sx5, sx6]
    refine ⟨_, ?_, rfl, Or.inl ⟨by rfl, fun wq hSw => Uniform.UStep.call (w' := wq) ?_ ((G2.out wq).mono ?_)⟩, ?_⟩
    rotate_left
    · obtain ⟨q0, q1, q2, q3, q4, q5, q6, q7, q8, q9⟩ := hSw
      go_simp
      first | done | rfl | exact ⟨⟨rfl, rfl⟩, rfl⟩ | exact ⟨rfl, rfl⟩
    · have hSk := hSw
      obtain ⟨q0, q1, q2, q3, q4, q5, q6, q7, q8, q9⟩ := hSw
      rintro e wq2 ⟨rfl, hbq⟩
      refine ⟨?_, (hbq.block _ (lt_row q0)).trans q0, (hbq.block _ (lt_row q1)).trans q1, (hbq.block _ (lt_row q2)).trans q2, (hbq.block _ (lt_row q3)).trans q3, (hbq.block _ (lt_row q4)).trans q4, (hbq.block _ (lt_row q5)).trans q5, (hbq.block _ (lt_row q6)).trans q6, q7.below hbq, q8.below hbq, q9.trans (hbq.mono q9.size)⟩
      rfl
    simp only [Act.put, sx1, sx2, sx3, sx4, sx5, sx6]
    refine ⟨_, ?_, rfl, Or.inl ⟨by rfl, fun wq hSw => Uniform.UStep.value (w' := wq) ?_ hSw⟩, ?_⟩
    rotate_left
    · obtain ⟨q0, q1, q2, q3, q4, q5, q6, q7, q8, q9⟩ := hSw
      go_simp
      rfl
    simp only [Act.put, sx1, sx2, sx3, sx4, sx5, sx6]
    refine ⟨_, ?_, rfl, Or.inl ⟨by rfl, fun wq hSw => Uniform.UStep.value (w' := wq) ?_ hSw⟩, ?_⟩
    rotate_left
    · obtain ⟨q0, q1, q2, q3, q4, q5, q6, q7, q8, q9⟩ := hSw
      go_simp
      rfl
    simp only [Act.put, sx1, sx2, sx3, sx4, sx5, sx6]
    refine ⟨_, ?_, rfl, Or.inl ⟨by rfl, fun wq hSw => Uniform.UStep.value (w' := wq) ?_ hSw⟩, ?_⟩
    rotate_left
    · obtain ⟨q0, q1, q2, q3, q4, q5, q6, q7, q8, q9⟩ := hSw
      go_simp
      rfl
    simp only [Act.put, sx1, sx2, sx3, sx4, sx5, sx6]
    refine ⟨_, ?_, rfl, Or.inl ⟨by rfl, fun wq hSw => Uniform.UStep.value (w' := wq) ?_ hSw⟩, ?_⟩
    rotate_left
    · obtain ⟨q0, q1, q2, q3, q4, q5, q6, q7, q8, q9⟩ := hSw
      go_simp
      rfl
    simp only [Act.put, sx1, sx2, sx3, sx4, sx5, sx6]
    refine ⟨_, ?_, rfl, Or.inl ⟨by rfl, fun wq hSw => Uniform.UStep.value (w' := wq) ?_ hSw⟩, ?_⟩
    rotate_left
    · obtain ⟨q0, q1, q2, q3, q4, q5, q6, q7, q8, q9⟩ := hSw
      go_simp
      rfl
    simp only [Act.put, sx1, sx2, sx3, sx4, sx5, sx6]
    refine ⟨_, ?_, rfl, Or.inl ⟨by rfl, fun wq hSw => Uniform.UStep.value (w' := wq) ?_ hSw⟩, ?_⟩
    rotate_left
    · obtain ⟨q0, q1, q2, q3, q4, q5, q6, q7, q8, q9⟩ := hSw
      go_simp
      rfl
    simp only [Act.put, sx1, sx2, sx3, sx4, sx5, sx6]
    refine ⟨_, ?_, rfl, Or.inl ⟨by rfl, fun wq hSw => Uniform.UStep.value (w' := wq) ?_ hSw⟩, ?_⟩
    rotate_left
    · obtain ⟨q0, q1, q2, q3, q4, q5, q6, q7, q8, q9⟩ := hSw
      go_simp
      rfl
    simp only [Act.put, sx1, sx2, sx3, sx4, sx5, sx6]
    refine ⟨_, ?_, rfl, Or.inl ⟨by rfl, fun wq hSw => Uniform.UStep.value (w' := wq) ?_ hSw⟩, ?_⟩
    rotate_left
    · obtain ⟨q0, q1, q2, q3, q4, q5, q6, q7, q8, q9⟩ := hSw
      go_simp
      rfl
    simp only [Act.put, sx1, sx2, sx3, sx4, sx5, sx6]
    refine ⟨_, ?_, rfl, Or.inl ⟨by rfl, fun wq hSw => Uniform.UStep.value (w' := wq) ?_ hSw⟩, ?_⟩
    rotate_left
    · obtain ⟨q0, q1, q2, q3, q4, q5, q6, q7, q8, q9⟩ := hSw
      go_simp
      rfl
    simp only [Act.put, sx1, sx2, sx3, sx4, sx5, sx6]
    refine ⟨_, ?_, rfl, Or.inl ⟨by rfl, fun wq hSw => Uniform.UStep.value (w' := wq) ?_ hSw⟩, ?_⟩
    rotate_left
    · obtain ⟨q0, q1, q2, q3, q4, q5, q6, q7, q8, q9⟩ := hSw
      go_simp
      rfl
    simp only [Act.put, sx1, sx2, sx3, sx4, sx5, sx6]
    refine ⟨_, ?_, rfl, Or.inl ⟨by rfl, fun wq hSw => Uniform.UStep.value (w' := wq) ?_ hSw⟩, ?_⟩
    rotate_left
    · obtain ⟨q0, q1, q2, q3, q4, q5, q6, q7, q8, q9⟩ := hSw
      go_simp
      rfl
    simp only [Act.put, sx1, sx2, sx3, sx4, sx5, sx6]
    refine ⟨_, ?_, rfl, Or.inl ⟨by rfl, fun wq hSw => Uniform.UStep.value (w' := wq) ?_ hSw⟩, ?_⟩
    rotate_left
    · obtain ⟨q0, q1, q2, q3, q4, q5, q6, q7, q8, q9⟩ := hSw
      go_simp
      rfl
    simp only [Act.put, sx1, sx2, sx3, sx4, sx5, sx6]
    refine ⟨_, ?_, rfl, Or.inl ⟨by rfl, fun wq hSw => Uniform.UStep.value (w' := wq) ?_ hSw⟩, ?_⟩
    rotate_left
    · obtain ⟨q0, q1, q2, q3, q4, q5, q6, q7, q8, q9⟩ := hSw
      go_simp
      rfl
    simp only [Act.put, sx1, sx2, sx3, sx4, sx5, sx6]
    refine ⟨_, _, rfl, Or.inl ⟨by rfl, fun wq hSw => Uniform.UStep.value (w' := wq) (EqHash.exec_load_row 23 _ rfl _ rfl hSw.2.1 Tryz.underlying23 rfl HCS.out) hSw⟩, ?_⟩
    simp only [Act.put, sx1, sx2, sx3, sx4, sx5, sx6]
    refine ⟨_, _, rfl, Or.inl ⟨by rfl, fun wq hSw => Uniform.UStep.value (w' := wq) (EqHash.exec_load_row 23 _ rfl _ rfl hSw.2.2.1 Tryz.underlying23 rfl HCS.out) hSw⟩, ?_⟩
    simp only [Act.put, sx1, sx2, sx3, sx4, sx5, sx6]
    refine ⟨_, ?_, rfl, Or.inl ⟨by rfl, fun wq hSw => Uniform.UStep.value (w' := wq) ?_ hSw⟩, ?_⟩
    rotate_left
    · obtain ⟨q0, q1, q2, q3, q4, q5, q6, q7, q8, q9⟩ := hSw
      go_simp
      rfl
    simp only [Act.put, sx1, sx2, sx3, sx4, sx5, sx6]
    refine ⟨_, ?_, rfl, Or.inl ⟨by rfl, fun wq hSw => Uniform.UStep.value (w' := wq) ?_ hSw⟩, ?_⟩
    rotate_left
    · obtain ⟨q0, q1, q2, q3, q4, q5, q6, q7, q8, q9⟩ := hSw
      go_simp
      rfl
    simp only [Act.put, sx1, sx2, sx3, sx4, sx5, sx6]
    refine ⟨_, ?_, rfl, Or.inl ⟨by rfl, fun wq hSw => Uniform.UStep.value (w' := wq) ?_ hSw⟩, ?_⟩
    rotate_left
    · obtain ⟨q0, q1, q2, q3, q4, q5, q6, q7, q8, q9⟩ := hSw
      go_simp
      rfl
    simp only [Act.put, sx1, sx2, sx3, sx4, sx5, sx6]
    refine ⟨_, ?_, rfl, Or.inl ⟨by rfl, fun wq hSw => Uniform.UStep.value (w' := wq) ?_ hSw⟩, ?_⟩
    rotate_left
    · obtain ⟨q0, q1, q2, q3, q4, q5, q6, q7, q8, q9⟩ := hSw
      go_simp
      rfl
    simp only [Act.put, sx1, sx2, sx3, sx4, sx5, sx6]
    refine ⟨_, ?_, rfl, Or.inl ⟨by rfl, fun wq hSw => Uniform.UStep.value (w' := wq) ?_ hSw⟩, ?_⟩
    rotate_left
    · obtain ⟨q0, q1, q2, q3, q4, q5, q6, q7, q8, q9⟩ := hSw
      go_simp
      rfl
    simp only [Act.put, sx1, sx2, sx3, sx4, sx5, sx6]
    refine ⟨_, ?_, rfl, Or.inl ⟨by rfl, fun wq hSw => Uniform.UStep.value (w' := wq) ?_ hSw⟩, ?_⟩
    rotate_left
    · obtain ⟨q0, q1, q2, q3, q4, q5, q6, q7, q8, q9⟩ := hSw
      go_simp
      rfl
    simp only [Act.put, sx1, sx2, sx3, sx4, sx5, sx6]
    refine ⟨_, ?_, rfl, Or.inl ⟨by rfl, fun wq hSw => Uniform.UStep.value (w' := wq) ?_ hSw⟩, ?_⟩
    rotate_left
    · obtain ⟨q0, q1, q2, q3, q4, q5, q6, q7, q8, q9⟩ := hSw
      go_simp
      rfl
    simp only [Act.put, sx1, sx2, sx3, sx4, sx5, sx6]
    refine ⟨_, ?_, rfl, Or.inl ⟨by rfl, fun wq hSw => Uniform.UStep.value (w' := wq) ?_ hSw⟩, ?_⟩
    rotate_left
    · obtain ⟨q0, q1, q2, q3, q4, q5, q6, q7, q8, q9⟩ := hSw
      go_simp
      rfl
    simp only [Act.put, sx1, sx2, sx3, sx4, sx5, sx6]
    refine ⟨_, ?_, rfl, Or.inl ⟨by rfl, fun wq hSw => Uniform.UStep.value (w' := wq) ?_ hSw⟩, ?_⟩
    rotate_left
    · obtain ⟨q0, q1, q2, q3, q4, q5, q6, q7, q8, q9⟩ := hSw
      go_simp
      rfl
    simp only [Act.put, sx1, sx2, sx3, sx4, sx5, sx6]
    refine ⟨_, ?_, rfl, Or.inl ⟨by rfl, fun wq hSw => Uniform.UStep.value (w' := wq) ?_ hSw⟩, ?_⟩
    rotate_left
    · obtain ⟨q0, q1, q2, q3, q4, q5, q6, q7, q8, q9⟩ := hSw
      go_simp
      rfl
    simp only [Act.put, sx1, sx2, sx3, sx4, sx5, sx6]
    refine ⟨_, ?_, rfl, Or.inl ⟨by rfl, fun wq hSw => Uniform.UStep.value (w' := wq) ?_ hSw⟩, ?_⟩
    rotate_left
    · obtain ⟨q0, q1, q2, q3, q4, q5, q6, q7, q8, q9⟩ := hSw
      go_simp
      rfl
    simp only [Act.put, sx1, sx2, sx3, sx4, sx5, sx6]
    refine ⟨_, ?_, rfl, Or.inl ⟨by rfl, fun wq hSw => Uniform.UStep.value (w' := wq) ?_ hSw⟩, ?_⟩
    rotate_left
    · obtain ⟨q0, q1, q2, q3, q4, q5, q6, q7, q8, q9⟩ := hSw
      go_simp
      rfl
    simp only [Act.put, sx1, sx2, sx3, sx4, sx5, sx6]
    refine ⟨_, ?_, rfl, Or.inl ⟨by rfl, fun wq hSw => Uniform.UStep.value (w' := wq) ?_ hSw⟩, ?_⟩
    rotate_left
    · obtain ⟨q0, q1, q2, q3, q4, q5, q6, q7, q8, q9⟩ := hSw
      go_simp
      rfl
    simp only [Act.put, sx1, sx2, sx3, sx4, sx5, sx6]
    refine ⟨_, ?_, rfl, Or.inl ⟨by rfl, fun wq hSw => Uniform.UStep.value (w' := wq) ?_ hSw⟩, ?_⟩
    rotate_left
    · obtain ⟨q0, q1, q2, q3, q4, q5, q6, q7, q8, q9⟩ := hSw
      go_simp
      rfl
    simp only [Act.put, sx1, sx2, sx3, sx4, sx5, sx6]
    refine ⟨_, ?_, rfl, Or.inl ⟨by rfl, fun wq hSw => Uniform.UStep.value (w' := wq) ?_ hSw⟩, ?_⟩
    rotate_left
    · obtain ⟨q0, q1, q2, q3, q4, q5, q6, q7, q8, q9⟩ := hSw
      go_simp
      rfl
    simp only [Act.put, sx1, sx2, sx3, sx4, sx5, sx6]
    refine ⟨_, ?_, rfl, Or.inl ⟨by rfl, fun wq hSw => Uniform.UStep.value (w' := wq) ?_ hSw⟩, ?_⟩
    rotate_left
    · obtain ⟨q0, q1, q2, q3, q4, q5, q6, q7, q8, q9⟩ := hSw
      go_simp
      rfl
    simp only [Act.put, sx1, sx2, sx3, sx4, sx5, sx6]
    refine ⟨_, ?_, rfl, Or.inl ⟨by rfl, fun wq hSw => Uniform.UStep.value (w' := wq) ?_ hSw⟩, ?_⟩
    rotate_left
    · obtain ⟨q0, q1, q2, q3, q4, q5, q6, q7, q8, q9⟩ := hSw
      go_simp
      rfl
    simp only [Act.put, sx1, sx2, sx3, sx4, sx5, sx6]
    refine ⟨_, ?_, rfl, Or.inl ⟨by rfl, fun wq hSw => Uniform.UStep.value (w' := wq) ?_ hSw⟩, ?_⟩
    rotate_left
    · obtain ⟨q0, q1, q2, q3, q4, q5, q6, q7, q8, q9⟩ := hSw
      go_simp
      rfl
    simp only [Act.put, sx1, sx2, sx3, sx4, sx5, sx6]
    refine ⟨_, _, rfl, Or.inl ⟨by rfl, fun wq hSw => Uniform.UStep.value (w' := wq) (EqHash.exec_load_row 25 _ rfl _ rfl hSw.2.2.2.1 Tryz.underlying25 rfl HXS.out) hSw⟩, ?_⟩
    simp only [Act.put, sx1, sx2, sx3, sx4, sx5, sx6]
    refine ⟨_, _, rfl, Or.inl ⟨by rfl, fun wq hSw => Uniform.UStep.value (w' := wq) (EqHash.exec_load_row 25 _ rfl _ rfl hSw.2.2.2.2.1 Tryz.underlying25 rfl HXS.out) hSw⟩, ?_⟩
    simp only [Act.put, sx1, sx2, sx3, sx4, sx5, sx6]
    refine ⟨_, ?_, rfl, Or.inl ⟨by rfl, fun wq hSw => Uniform.UStep.value (w' := wq) ?_ hSw⟩, ?_⟩
    rotate_left
    · obtain ⟨q0, q1, q2, q3, q4, q5, q6, q7, q8, q9⟩ := hSw
      go_simp
      rfl
    simp only [Act.put, sx1, sx2, sx3, sx4, sx5, sx6]
    refine ⟨_, ?_, rfl, Or.inl ⟨by rfl, fun wq hSw => Uniform.UStep.value (w' := wq) ?_ hSw⟩, ?_⟩
    rotate_left
    · obtain ⟨q0, q1, q2, q3, q4, q5, q6, q7, q8, q9⟩ := hSw
      go_simp
      rfl
    simp only [Act.put, sx1, sx2, sx3, sx4, sx5, sx6]
    refine ⟨_, ?_, rfl, Or.inl ⟨by rfl, fun wq hSw => Uniform.UStep.value (w' := wq) ?_ hSw⟩, ?_⟩
    rotate_left
    · obtain ⟨q0, q1, q2, q3, q4, q5, q6, q7, q8, q9⟩ := hSw
      go_simp
      rfl
    simp only [Act.put, sx1, sx2, sx3, sx4, sx5, sx6]
    refine ⟨_, ?_, rfl, Or.inl ⟨by rfl, fun wq hSw => Uniform.UStep.value (w' := wq) ?_ hSw⟩, ?_⟩
    rotate_left
    · obtain ⟨q0, q1, q2, q3, q4, q5, q6, q7, q8, q9⟩ := hSw
      go_simp
      rfl
    simp only [Act.put, sx1, sx2, sx3, sx4, sx5, sx6]
    refine ⟨_, ?_, rfl, Or.inl ⟨by rfl, fun wq hSw => Uniform.UStep.value (w' := wq) ?_ hSw⟩, ?_⟩
    rotate_left
    · obtain ⟨q0, q1, q2, q3, q4, q5, q6, q7, q8, q9⟩ := hSw
      go_simp
      rfl
    simp only [Act.put, sx1, sx2, sx3, sx4, sx5, sx6]
    refine ⟨_, ?_, rfl, Or.inl ⟨by rfl, fun wq hSw => Uniform.UStep.value (w' := wq) ?_ hSw⟩, ?_⟩
    rotate_left
    · obtain ⟨q0, q1, q2, q3, q4, q5, q6, q7, q8, q9⟩ := hSw
      go_simp
      rfl
    simp only [Act.put, sx1, sx2, sx3, sx4, sx5, sx6]
    refine ⟨_, ?_, rfl, Or.inl ⟨by rfl, fun wq hSw => Uniform.UStep.value (w' := wq) ?_ hSw⟩, ?_⟩
    rotate_left
    · obtain ⟨q0, q1, q2, q3, q4, q5, q6, q7, q8, q9⟩ := hSw
      go_simp
      rfl
    simp only [Act.put, sx1, sx2, sx3, sx4, sx5, sx6]
    refine ⟨_, ?_, rfl, Or.inl ⟨by rfl, fun wq hSw => Uniform.UStep.value (w' := wq) ?_ hSw⟩, ?_⟩
    rotate_left
    · obtain ⟨q0, q1, q2, q3, q4, q5, q6, q7, q8, q9⟩ := hSw
      go_simp
      rfl
    simp only [Act.put, sx1, sx2, sx3, sx4, sx5, sx6]
    refine ⟨_, _, rfl, Or.inl ⟨by rfl, fun wq hSw => Uniform.UStep.value (w' := wq) (EqHash.exec_load_row 25 _ rfl _ rfl hSw.2.2.2.2.2.1 Tryz.underlying25 rfl HYS.out) hSw⟩, ?_⟩
    simp only [Act.put, sx1, sx2, sx3, sx4, sx5, sx6]
    refine ⟨_, _, rfl, Or.inl ⟨by rfl, fun wq hSw => Uniform.UStep.value (w' := wq) (EqHash.exec_load_row 25 _ rfl _ rfl hSw.2.2.2.2.2.2.1 Tryz.underlying25 rfl HYS.out) hSw⟩, ?_⟩
    simp only [Act.put, sx1, sx2, sx3, sx4, sx5, sx6]
    refine ⟨_, ?_, rfl, Or.inl ⟨by rfl, fun wq hSw => Uniform.UStep.value (w' := wq) ?_ hSw⟩, ?_⟩
    rotate_left
    · obtain ⟨q0, q1, q2, q3, q4, q5, q6, q7, q8, q9⟩ := hSw
      go_simp
      rfl
    simp only [Act.put, sx1, sx2, sx3, sx4, sx5, sx6]
    refine ⟨_, ?_, rfl, Or.inl ⟨by rfl, fun wq hSw => Uniform.UStep.value (w' := wq) ?_ hSw⟩, ?_⟩
    rotate_left
    · obtain ⟨q0, q1, q2, q3, q4, q5, q6, q7, q8, q9⟩ := hSw
      go_simp
      rfl
    simp only [Act.put, sx1, sx2, sx3, sx4, sx5, sx6]
    refine ⟨_, ?_, rfl, Or.inl ⟨by rfl, fun wq hSw => Uniform.UStep.value (w' := wq) ?_ hSw⟩, ?_⟩
    rotate_left
    · obtain ⟨q0, q1, q2, q3, q4, q5, q6, q7, q8, q9⟩ := hSw
      go_simp
      rfl
    simp only [Act.put, sx1, sx2, sx3, sx4, sx5, sx6]
    refine ⟨_, ?_, rfl, Or.inl ⟨by rfl, fun wq hSw => Uniform.UStep.value (w' := wq) ?_ hSw⟩, ?_⟩
    rotate_left
    · obtain ⟨q0, q1, q2, q3, q4, q5, q6, q7, q8, q9⟩ := hSw
      go_simp
      rfl
    simp only [Act.put, sx1, sx2, sx3, sx4, sx5, sx6]
    refine ⟨_, ?_, rfl, Or.inl ⟨by rfl, fun wq hSw => Uniform.UStep.value (w' := wq) ?_ hSw⟩, ?_⟩
    rotate_left
    · obtain ⟨q0, q1, q2, q3, q4, q5, q6, q7, q8, q9⟩ := hSw
      go_simp
      rfl
    simp only [Act.put, sx1, sx2, sx3, sx4, sx5, sx6]
    refine ⟨_, ?_, rfl, Or.inl ⟨by rfl, fun wq hSw => Uniform.UStep.value (w' := wq) ?_ hSw⟩, ?_⟩
    rotate_left
    · obtain ⟨q0, q1, q2, q3, q4, q5, q6, q7, q8, q9⟩ := hSw
      go_simp
      rfl
    simp only [Act.put, sx1, sx2, sx3, sx4, sx5, sx6]
    refine ⟨_, ?_, rfl, Or.inl ⟨by rfl, fun wq hSw => Uniform.UStep.value (w' := wq) ?_ hSw⟩, ?_⟩
    rotate_left
    · obtain ⟨q0, q1, q2, q3, q4, q5, q6, q7, q8, q9⟩ := hSw
      go_simp
      rfl
    simp only [Act.put, sx1, sx2, sx3, sx4, sx5, sx6]
    refine ⟨_, ?_, rfl, Or.inl ⟨by rfl, fun wq hSw => Uniform.UStep.value (w' := wq) ?_ hSw⟩, ?_⟩
    rotate_left
    · obtain ⟨q0, q1, q2, q3, q4, q5, q6, q7, q8, q9⟩ := hSw
      go_simp
      rfl
    simp only [Act.put, sx1, sx2, sx3, sx4, sx5, sx6]
    intro wz hSz
    obtain ⟨_, _, _, _, _, _, _, _, _, q9⟩ := hSz
    go_wp2
    go_ret
    exact ⟨rfl, q9⟩


end Go.Proofs.YtooincpbmlhpbaaGreatDoor.EntN
