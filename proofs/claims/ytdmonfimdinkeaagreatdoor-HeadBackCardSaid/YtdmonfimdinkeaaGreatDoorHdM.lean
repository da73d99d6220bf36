/-
  WHAT IS PROVED: the statement's function that reads heads back from their bytes answers true. Condition: the variables hold what 'VarsI' and 'VarsH' say, and the strings are not longer than the theorem says.
-/
import Derived.Test.YtdmonfimdinkeaaGreatDoorHdQ
import Derived.Test.YtdmonfimdinkeaaGreatDoorWireB
namespace Go.Proofs.YtdmonfimdinkeaaGreatDoor.HdM
open Go Go.RowKit Go.Shelf Go.Proofs.YtdmonfimdinkeaaGreatDoor Go.Proofs.YtdmonfimdinkeaaGreatDoor.OctetS Go.Proofs.YtdmonfimdinkeaaGreatDoor.IdentS Go.Proofs.YtdmonfimdinkeaaGreatDoor.EntS Go.Proofs.YtdmonfimdinkeaaGreatDoor.OctG Go.Proofs.YtdmonfimdinkeaaGreatDoor.IdentP Go.Proofs.YtdmonfimdinkeaaGreatDoor.EntP Go.Proofs.YtdmonfimdinkeaaGreatDoor.EventC Go.Proofs.YtdmonfimdinkeaaGreatDoor.ShaA Go.Proofs.YtdmonfimdinkeaaGreatDoor.Steps Go.Proofs.YtdmonfimdinkeaaGreatDoor.KeyA Go.Proofs.YtdmonfimdinkeaaGreatDoor.TreeA Go.Proofs.YtdmonfimdinkeaaGreatDoor.WireT Go.Proofs.YtdmonfimdinkeaaGreatDoor.HdL Go.Proofs.YtdmonfimdinkeaaGreatDoor.HdQ Go.Proofs.YtdmonfimdinkeaaGreatDoor.HdI
set_option linter.unusedVariables false
set_option linter.unusedSimpArgs false
attribute [-go_sem] run_equalIn_agg

def EqR (X p : Array Value) : Prop := ∀ w, (Op.equalIn 10000 25 (.agg X) (.agg p)).run Tryz.prog w = .ok true w
theorem partA (p : Array Value) (r : ByteArray) (ep ix : Int) (pv : List UInt8) (sg : ByteArray) (hp : HdP p r ep ix pv sg) (hr : r.size ≤ 140737488351232) (hs : sg.size ≤ maxLen) :
    ∃ (T1 : ByteArray) (W1 : Int) (X : Array Value) (W2 : Int), (∀ w, VarsI w → Calls Tryz.prog 10 #[.agg p] w (RB (.tuple #[.string T1, .int .i64 W1]) w)) ∧ (∀ w, VarsI w → Calls Tryz.prog 12 #[.string T1] w (RB (.tuple #[.agg X, .int .i64 W2]) w)) ∧
      (X.size = 36 ∧ X.all (·.oneCell') = true) ∧ (W1 = 0 → W2 = 0 ∧ EqR X p) := by
  obtain ⟨x, hx⟩ : ∃ x, x = hdOf r ep ix pv sg := ⟨_, rfl⟩
  have hB := fun w hv => HdT.P_Bytes w p r ep ix pv sg hp hv hr hs
  rw [← hx] at hB
  have hz : (bsOf (HdS.bytesW x).1).size ≤ 140737488351232 := by rw [size_bsOf]; have := bytesW_len x; omega
  obtain ⟨X, W2, r2, ep2, ix2, pv2, g2, hX, _, _, hV, h0⟩ := parse_row (bsOf (HdS.bytesW x).1)
  have hP := fun w hv => WireC.Parse_ok w (bsOf (HdS.bytesW x).1) hz hv
  rw [hV] at hP
  refine ⟨_, _, X, W2, hB, hP, ⟨hX.size, by rw [hX.eq]; exact hdA_one _ _ _ _ _⟩, fun hW => ?_⟩
  rw [bl_bsOf] at hV
  rw [HdT.hbytes_ok] at hW hV
  by_cases hc : checkH x = true
  · rw [if_pos hc] at hW hV
    by_cases ht : (HdS.text x).length ≤ 8192
    · rw [if_pos ht] at hV
      rw [HdS.parse_bytes (HdS.check_iff.1 hc) (by rw [hx]; exact hp.len) ht] at hV
      have hrow : hdA (bsOf x.room) x.ep x.ix x.sum (bsOf x.sig) = p := by rw [hx]; exact row_hdOf hp
      simp only [hdV, hrow] at hV
      simp only [Value.tuple.injEq, Array.mk.injEq, List.cons.injEq, Value.agg.injEq, Value.int.injEq, and_true, true_and] at hV
      refine ⟨hV.2.symm, ?_⟩
      rw [← hV.1]
      exact fun w => eq_hd hp w
    · rw [if_neg ht] at hW
      cases hW
  · rw [if_neg hc] at hW
    cases hW
theorem partB (s : ByteArray) (hs : s.size ≤ 140737488351232) :
    ∃ (Y : Array Value) (W3 : Int) (T4 : ByteArray) (W4 : Int), (∀ w, VarsI w → Calls Tryz.prog 12 #[.string s] w (RB (.tuple #[.agg Y, .int .i64 W3]) w)) ∧ (∀ w, VarsI w → Calls Tryz.prog 10 #[.agg Y] w (RB (.tuple #[.string T4, .int .i64 W4]) w)) ∧
      (Y.size = 36 ∧ Y.all (·.oneCell') = true) ∧ (W3 = 0 → W4 = 0 ∧ (T4.toList == s.toList) = true) := by
  obtain ⟨Y, W3, r, ep, ix, pv, g, hY, hr, hg, hV, h0⟩ := parse_row s
  have hP := fun w hv => WireC.Parse_ok w s hs hv
  rw [hV] at hP
  refine ⟨Y, W3, _, _, hP, fun w hv => HdT.P_Bytes w Y r ep ix pv g hY hv (by omega) (by unfold maxLen; omega), ⟨hY.size, by rw [hY.eq]; exact hdA_one _ _ _ _ _⟩, fun hW => ?_⟩
  obtain ⟨y, hy, hyy⟩ := h0 hW
  obtain ⟨hR, hp, ht, hb⟩ := HdS.parse_ok hy
  rw [hyy, HdT.hbytes_ok, if_pos (HdS.check_iff.2 hR), if_pos ht]
  exact ⟨rfl, by rw [hb, bsOf_bl]; exact beq_self_eq_true _⟩
theorem entV_row (o : Option Ent) : (∀ y, o = some y → y.prev.length = 32) → ∃ (X : Array Value) (W : Int), (X.size = 37 ∧ X.all (·.oneCell') = true) ∧ entV o = .tuple #[.agg X, .int .i64 W] ∧ (o = none → W = 6) := by
  intro h
  cases o with
  | none => exact ⟨entZ, 6, ⟨rfl, entA_one _ _ _ _ _ _⟩, rfl, fun _ => rfl⟩
  | some y => exact ⟨_, 0, ⟨entA_size (h y rfl), entA_one _ _ _ _ _ _⟩, rfl, fun h => by cases h⟩
theorem hdV_row (o : Option WireS.Hd) : (∀ y, o = some y → y.sum.length = 32) → ∃ (X : Array Value) (W : Int), (X.size = 36 ∧ X.all (·.oneCell') = true) ∧ hdV o = .tuple #[.agg X, .int .i64 W] ∧ (o = none → W = 6) := by
  intro h
  cases o with
  | none => exact ⟨hdZ, 6, ⟨rfl, hdA_one _ _ _ _ _⟩, rfl, fun _ => rfl⟩
  | some y => exact ⟨_, 0, ⟨hdA_size (h y rfl), hdA_one _ _ _ _ _⟩, rfl, fun h => by cases h⟩
theorem why_zero {b : Bool} (h : whyOf b = 0) : b = true := by
  cases b with
  | true => rfl
  | false => cases h
theorem partC (p q : Array Value) (r : ByteArray) (ep ix : Int) (pv : List UInt8) (sg : ByteArray) (r' : ByteArray) (ep' ix' : Int) (pv' : List UInt8) (e' sg' : ByteArray) (hp : HdP p r ep ix pv sg) (hq : EntP q r' ep' ix' pv' e' sg') (hr : r.size ≤ 140737488351232) (hs : sg.size ≤ maxLen) (hr' : r'.size ≤ 140737488351232) (he' : e'.size ≤ maxLen) (hs' : sg'.size ≤ maxLen) :
    ∃ (T5 : ByteArray) (W5 : Int) (T6 : ByteArray) (W6 : Int) (X : Array Value) (W7 : Int) (Y : Array Value) (W8 : Int), (∀ w, VarsI w → Calls Tryz.prog 8 #[.agg p] w (RB (.tuple #[.string T5, .int .i64 W5]) w)) ∧ (∀ w, VarsI w → Calls Tryz.prog 33 #[.agg q] w (RB (.tuple #[.string T6, .int .i64 W6]) w)) ∧
      (∀ w, VarsI w → Calls Tryz.prog 34 #[.string T5] w (RB (.tuple #[.agg X, .int .i64 W7]) w)) ∧ (∀ w, VarsI w → Calls Tryz.prog 14 #[.string T6] w (RB (.tuple #[.agg Y, .int .i64 W8]) w)) ∧
      (X.size = 37 ∧ X.all (·.oneCell') = true) ∧ (Y.size = 36 ∧ Y.all (·.oneCell') = true) ∧ (W5 = 0 → W7 = 6) ∧ (W6 = 0 → W8 = 6) ∧ (W5 = 0 → W6 = 0 → (T5.toList == T6.toList) = false) := by
  obtain ⟨x, hx⟩ : ∃ x, x = hdOf r ep ix pv sg := ⟨_, rfl⟩
  obtain ⟨y, hy⟩ : ∃ y, y = entOf r' ep' ix' pv' e' sg' := ⟨_, rfl⟩
  have hlx : x.sum.length = 32 := by rw [hx]; exact hp.len
  have hly : y.prev.length = 32 := by rw [hy]; exact hq.len
  have h5 := fun w hv => HdT.P_Text w p r ep ix pv sg hp hv hr hs
  have h6 := fun w hv => Text_ok w q r' ep' ix' pv' e' sg' hq hv hr' he' hs'
  rw [← hx] at h5
  rw [← hy] at h6
  have z5 : (HdS.textOf x).length ≤ 100000 := by
    unfold HdS.textOf
    split
    · exact HdT.hd_len (HdS.check_iff.1 (by assumption)) hlx
    · simp
  have z6 : (EntS.textOf y).length ≤ 100000 := by
    unfold EntS.textOf
    split
    · exact EntX.ent_len (EntS.check_iff.1 (by assumption)) hly
    · simp
  have h7 := fun w hv => WireB.Read_ok w (bsOf (HdS.textOf x)) (by rw [size_bsOf]; omega) hv
  have h8 := fun w hv => WireC.Read_ok w (bsOf (EntS.textOf y)) (by rw [size_bsOf]; omega) hv
  rw [bl_bsOf] at h7 h8
  obtain ⟨X, W7, hXr, hXV, hX0⟩ := entV_row (WireS.read (HdS.textOf x)) (fun y h => (EntB.read_ok h).2.1)
  obtain ⟨Y, W8, hYr, hYV, hY0⟩ := hdV_row (WireS.readH (EntS.textOf y)) (fun y h => (HdS.read_ok h).2.1)
  rw [hXV] at h7
  rw [hYV] at h8
  have aT : checkH x = true → all (HdS.textOf x) = (HdS.parts x, 0) := fun hc => by
    unfold HdS.textOf
    rw [if_pos hc]
    exact all_list ((HdS.check_iff.1 hc).fits hlx)
  have aE : EntS.checkB y = true → all (EntS.textOf y) = (EntS.parts y, 0) := fun hc => by
    unfold EntS.textOf
    rw [if_pos hc]
    exact all_list ((EntS.check_iff.1 hc).fits hly)
  refine ⟨_, _, _, _, X, W7, Y, W8, h5, h6, h7, h8, hXr, hYr, fun hW => hX0 ?_, fun hW => hY0 ?_, fun hW hW' => str_ne fun he => ?_⟩
  · exact read_bad (aT (why_zero hW)) (.inr (by simp [HdS.parts]))
  · exact readH_bad (aE (why_zero hW)) (.inr (by simp [EntS.parts]))
  · have hb := congrArg bl he
    rw [bl_bsOf, bl_bsOf] at hb
    have h1 := aT (why_zero hW)
    rw [hb, aE (why_zero hW')] at h1
    have h2 := congrArg (fun z => z.1.length) h1
    simp [EntS.parts, HdS.parts] at h2

set_option maxRecDepth 100000 in
set_option maxHeartbeats 4000000 in
theorem back_ok (w : World) (hv : VarsI w) (hk : VarsH w) (p : Array Value) (r : ByteArray) (ep ix : Int) (pv : List UInt8) (sg : ByteArray) (hp : HdP p r ep ix pv sg) (s : ByteArray) (q : Array Value) (r' : ByteArray) (ep' ix' : Int) (pv' : List UInt8) (e' sg' : ByteArray) (hq : EntP q r' ep' ix' pv' e' sg') (hr : r.size ≤ 140737488351232) (hs : sg.size ≤ maxLen) (ht : s.size ≤ 140737488351232) (hr' : r'.size ≤ 140737488351232) (he' : e'.size ≤ maxLen) (hs' : sg'.size ≤ maxLen) :
    Calls Tryz.prog 6 #[.agg p, .string s, .agg q] w (RB (.bool true) w) := by
  obtain ⟨T1, W1, X, W2, a1, a2, ⟨hXn, hXo⟩, a3⟩ := partA p r ep ix pv sg hp hr hs
  obtain ⟨Y, W3, T4, W4, b1, b2, ⟨hYn, hYo⟩, b3⟩ := partB s ht
  obtain ⟨T5, W5, T6, W6, U, W7, V, W8, c5, c6, c7, c8, ⟨hUn, hUo⟩, ⟨hVn, hVo⟩, d7, d8, d9⟩ := partC p q r ep ix pv sg r' ep' ix' pv' e' sg' hp hq hr hs hr' he' hs'
  have hGE := EqHd.guardHd
  have HpS : Hid ((Tryz.prog.info? 25).map (·.size) = some p.size) := Lib.hid (by rw [hp.size]; kernel_rfl)
  have HpN : Hid (36 = p.size) := Lib.hid (hp.size).symm
  have HXS : Hid ((Tryz.prog.info? 25).map (·.size) = some X.size) := Lib.hid (by rw [hXn]; kernel_rfl)
  have HXN : Hid (36 = X.size) := Lib.hid (hXn).symm
  have HYS : Hid ((Tryz.prog.info? 25).map (·.size) = some Y.size) := Lib.hid (by rw [hYn]; kernel_rfl)
  have HYN : Hid (36 = Y.size) := Lib.hid (hYn).symm
  have HVS : Hid ((Tryz.prog.info? 25).map (·.size) = some V.size) := Lib.hid (by rw [hVn]; kernel_rfl)
  have HVN : Hid (36 = V.size) := Lib.hid (hVn).symm
  have HqS : Hid ((Tryz.prog.info? 27).map (·.size) = some q.size) := Lib.hid (by rw [hq.size]; kernel_rfl)
  have HqN : Hid (37 = q.size) := Lib.hid (hq.size).symm
  have HUS : Hid ((Tryz.prog.info? 27).map (·.size) = some U.size) := Lib.hid (by rw [hUn]; kernel_rfl)
  have HUN : Hid (37 = U.size) := Lib.hid (hUn).symm
  have HXO := Lib.hid hXo
  have HYO := Lib.hid hYo
  have HUO := Lib.hid hUo
  have HVO := Lib.hid hVo
  have A1 := Lib.hid a1
  have A2 := Lib.hid a2
  have B1 := Lib.hid b1
  have B2 := Lib.hid b2
  have C5 := Lib.hid c5
  have C6 := Lib.hid c6
  have C7 := Lib.hid c7
  have C8 := Lib.hid c8
  have HGE := Lib.hid hGE
  have HV := Lib.hid hv
  have HK := Lib.hid hk
  have Hf1 := Lib.hid (show (W1 = 0 ∧ W2 = 0 ∧ EqR X p) ∨ (¬ W1 = 0 ∧ (W1 == 0) = false) by
    by_cases h : W1 = 0
    · exact .inl ⟨h, a3 h⟩
    · exact .inr ⟨h, by simpa using h⟩)
  have Hf3 := Lib.hid (show (W3 = 0 ∧ W4 = 0 ∧ (T4.toList == s.toList) = true) ∨ (¬ W3 = 0 ∧ (W3 == 0) = false) by
    by_cases h : W3 = 0
    · exact .inl ⟨h, b3 h⟩
    · exact .inr ⟨h, by simpa using h⟩)
  have Hf5 := Lib.hid (show (W5 = 0 ∧ W7 = 6) ∨ (¬ W5 = 0 ∧ (W5 == 0) = false) by
    by_cases h : W5 = 0
    · exact .inl ⟨h, d7 h⟩
    · exact .inr ⟨h, by simpa using h⟩)
  have Hf6 := Lib.hid (show (W6 = 0 ∧ W8 = 6) ∨ (¬ W6 = 0 ∧ (W6 == 0) = false) by
    by_cases h : W6 = 0
    · exact .inl ⟨h, d8 h⟩
    · exact .inr ⟨h, by simpa using h⟩)
  have Hf9 := Lib.hid d9
  clear a1 a2 a3 b1 b2 b3 c5 c6 c7 c8 d7 d8 d9 hXn hXo hYn hYo hUn hUo hVn hVo hv hk hGE hp hq hr hs hr' he' hs'
  obtain ⟨w0, hw0⟩ : ∃ w0, w0 = (w.alloc (.cells p 25)).alloc (.cells q 27) := ⟨_, rfl⟩
  have hb0 : Below w.heap.size w w0 := by rw [hw0]; exact ((Below.refl _ _).alloc (Nat.le_refl _) _).alloc (by simp) _
  have HP0 : Hid (w0.heap[w.heap.size]? = some (.cells p 25 (0, 0))) := Lib.hid (by rw [hw0]; exact heap_at (heap_new _ _) _)
  have HO0 : Hid (w0.heap[w.heap.size + 1]? = some (.cells q 27 (0, 0))) := Lib.hid (by rw [hw0]; exact heap_new' _ (by simp))
  have lP0 := lt_row HP0.out
  have lO0 := lt_row HO0.out
  have HBL0 := Lib.hid hb0
  have HW0 := Lib.hid hw0
  have z0 := hb0.size
  clear hw0 hb0
  go_enter Tryz.func6, Tryz.ntmps6
  go_wp2_with fail
  rw [← HW0.out]
  refine (lives_ok w0 (HV.out.below HBL0.out) (HK.out.below HBL0.out)).mono ?_
  rintro e' w1 ⟨rfl, hb⟩
  have HP1 := Lib.hid ((hb.block _ lP0).trans HP0.out)
  have lP1 := lt_row HP1.out
  have HO1 := Lib.hid ((hb.block _ lO0).trans HO0.out)
  have lO1 := lt_row HO1.out
  have HBL1 := Lib.hid (HBL0.out.trans (hb.mono HBL0.out.size))
  have z1 := HBL1.out.size
  clear hb z0 lP0 lO0
  go_wp2_with (first | (refine wpList_load_row rfl _ _ rfl w.heap.size rfl _ p (0, 0) _ HP1.out Tryz.underlying25 rfl HpS.out ?_) | fail)
  refine (A1.out w1 (HV.out.below HBL1.out)).mono ?_
  rintro e w2 ⟨rfl, hb⟩
  have HP2 := Lib.hid ((hb.block _ lP1).trans HP1.out)
  have lP2 := lt_row HP2.out
  have HO2 := Lib.hid ((hb.block _ lO1).trans HO1.out)
  have lO2 := lt_row HO2.out
  have HBL2 := Lib.hid (HBL1.out.trans (hb.mono HBL1.out.size))
  have z2 := HBL2.out.size
  clear hb z1 lP1 lO1
  go_wp2_with fail
  refine (A2.out w2 (HV.out.below HBL2.out)).mono ?_
  rintro e w3 ⟨rfl, hb⟩
  have HP3 := Lib.hid ((hb.block _ lP2).trans HP2.out)
  have lP3 := lt_row HP3.out
  have HO3 := Lib.hid ((hb.block _ lO2).trans HO2.out)
  have lO3 := lt_row HO3.out
  have HBL3 := Lib.hid (HBL2.out.trans (hb.mono HBL2.out.size))
  have z3 := HBL3.out.size
  clear hb z2 lP2 lO2
  go_wp2_with (first | (refine wpList_store_rowA rfl _ _ _ rfl w3.heap.size X rfl rfl _ _ (heap_new _ _) HXS.out (by rw [← HXN.out]; rfl) HXO.out ?_) | fail)
  intro u1 hu1
  have hb : Below w3.heap.size w3 u1 := by rw [hu1.out]; exact below_row ((Below.refl _ _).alloc (Nat.le_refl _) _) (Nat.le_refl _) _
  have hy : u1.heap[w3.heap.size]? = some (.cells X 25 (0, 0)) := by rw [hu1.out]; exact setRow_at (heap_new _ _)
  clear hu1
  obtain ⟨w4, hww⟩ : ∃ w', w' = u1 := ⟨_, rfl⟩
  rw [← hww] at hb hy ⊢
  clear hww
  obtain ⟨BX, hBX⟩ : ∃ B, B = w3.heap.size := ⟨_, rfl⟩
  rw [← hBX] at hy ⊢
  have gX : w.heap.size ≤ BX := by omega
  clear hBX
  have Hyn := Lib.hid hy
  clear hy
  have HP4 := Lib.hid ((hb.block _ lP3).trans HP3.out)
  have lP4 := lt_row HP4.out
  have HO4 := Lib.hid ((hb.block _ lO3).trans HO3.out)
  have lO4 := lt_row HO4.out
  have HBL4 := Lib.hid (HBL3.out.trans (hb.mono HBL3.out.size))
  have z4 := HBL4.out.size
  clear hb z3 lP3 lO3
  have HX4 := Lib.hid Hyn.out
  have lX4 := lt_row HX4.out
  clear Hyn
  go_wp2_with fail
  refine (B1.out w4 (HV.out.below HBL4.out)).mono ?_
  rintro e w5 ⟨rfl, hb⟩
  have HP5 := Lib.hid ((hb.block _ lP4).trans HP4.out)
  have lP5 := lt_row HP5.out
  have HO5 := Lib.hid ((hb.block _ lO4).trans HO4.out)
  have lO5 := lt_row HO5.out
  have HX5 := Lib.hid ((hb.block _ lX4).trans HX4.out)
  have lX5 := lt_row HX5.out
  have HBL5 := Lib.hid (HBL4.out.trans (hb.mono HBL4.out.size))
  have z5 := HBL5.out.size
  clear hb z4 lP4 lO4 lX4
  go_wp2_with (first | (refine wpList_store_rowA rfl _ _ _ rfl w5.heap.size Y rfl rfl _ _ (heap_new _ _) HYS.out (by rw [← HYN.out]; rfl) HYO.out ?_) | fail)
  intro u1 hu1
  have hb : Below w5.heap.size w5 u1 := by rw [hu1.out]; exact below_row ((Below.refl _ _).alloc (Nat.le_refl _) _) (Nat.le_refl _) _
  have hy : u1.heap[w5.heap.size]? = some (.cells Y 25 (0, 0)) := by rw [hu1.out]; exact setRow_at (heap_new _ _)
  clear hu1
  obtain ⟨w6, hww⟩ : ∃ w', w' = u1 := ⟨_, rfl⟩
  rw [← hww] at hb hy ⊢
  clear hww
  obtain ⟨BY, hBY⟩ : ∃ B, B = w5.heap.size := ⟨_, rfl⟩
  rw [← hBY] at hy ⊢
  have gY : w.heap.size ≤ BY := by omega
  clear hBY
  have Hyn := Lib.hid hy
  clear hy
  have HP6 := Lib.hid ((hb.block _ lP5).trans HP5.out)
  have lP6 := lt_row HP6.out
  have HO6 := Lib.hid ((hb.block _ lO5).trans HO5.out)
  have lO6 := lt_row HO6.out
  have HX6 := Lib.hid ((hb.block _ lX5).trans HX5.out)
  have lX6 := lt_row HX6.out
  have HBL6 := Lib.hid (HBL5.out.trans (hb.mono HBL5.out.size))
  have z6 := HBL6.out.size
  clear hb z5 lP5 lO5 lX5
  have HY6 := Lib.hid Hyn.out
  have lY6 := lt_row HY6.out
  clear Hyn
  go_wp2_with (first | (refine wpList_load_row rfl _ _ rfl BY rfl _ Y (0, 0) _ HY6.out Tryz.underlying25 rfl HYS.out ?_) | fail)
  refine (B2.out w6 (HV.out.below HBL6.out)).mono ?_
  rintro e w7 ⟨rfl, hb⟩
  have HP7 := Lib.hid ((hb.block _ lP6).trans HP6.out)
  have lP7 := lt_row HP7.out
  have HO7 := Lib.hid ((hb.block _ lO6).trans HO6.out)
  have lO7 := lt_row HO7.out
  have HX7 := Lib.hid ((hb.block _ lX6).trans HX6.out)
  have lX7 := lt_row HX7.out
  have HY7 := Lib.hid ((hb.block _ lY6).trans HY6.out)
  have lY7 := lt_row HY7.out
  have HBL7 := Lib.hid (HBL6.out.trans (hb.mono HBL6.out.size))
  have z7 := HBL7.out.size
  clear hb z6 lP6 lO6 lX6 lY6
  have hGE := HGE.out
  rcases Hf1.out with ⟨rfl, rfl, hqX⟩ | ⟨h1, g1⟩ <;> rcases Hf3.out with ⟨rfl, rfl, hqs⟩ | ⟨h3, g3⟩ <;>
    ((try unfold EqR at hqX)
     go_wp2_with (first | (refine WireT.wpList_load_rowG (by rfl) _ _ rfl BX rfl _ X (0, 0) _ HX7.out Tryz.underlying25 rfl HXS.out ?_) | (refine WireT.wpList_load_rowG (by rfl) _ _ rfl w.heap.size rfl _ p (0, 0) _ HP7.out Tryz.underlying25 rfl HpS.out ?_) | (refine wpList_load_row rfl _ _ rfl w.heap.size rfl _ p (0, 0) _ HP7.out Tryz.underlying25 rfl HpS.out ?_) | fail)
     clear hGE
     (try clear hqX)
     (try clear hqs)
     refine (C5.out w7 (HV.out.below HBL7.out)).mono ?_
     rintro e w8 ⟨rfl, hb⟩
     have HP8 := Lib.hid ((hb.block _ lP7).trans HP7.out)
     have lP8 := lt_row HP8.out
     have HO8 := Lib.hid ((hb.block _ lO7).trans HO7.out)
     have lO8 := lt_row HO8.out
     have HX8 := Lib.hid ((hb.block _ lX7).trans HX7.out)
     have lX8 := lt_row HX8.out
     have HY8 := Lib.hid ((hb.block _ lY7).trans HY7.out)
     have lY8 := lt_row HY8.out
     have HBL8 := Lib.hid (HBL7.out.trans (hb.mono HBL7.out.size))
     have z8 := HBL8.out.size
     clear hb z7 lP7 lO7 lX7 lY7
     go_wp2_with (first | (refine wpList_load_row rfl _ _ rfl (w.heap.size + 1) rfl _ q (0, 0) _ HO8.out Tryz.underlying27 rfl HqS.out ?_) | fail)
     refine (C6.out w8 (HV.out.below HBL8.out)).mono ?_
     rintro e w9 ⟨rfl, hb⟩
     have HP9 := Lib.hid ((hb.block _ lP8).trans HP8.out)
     have lP9 := lt_row HP9.out
     have HO9 := Lib.hid ((hb.block _ lO8).trans HO8.out)
     have lO9 := lt_row HO9.out
     have HX9 := Lib.hid ((hb.block _ lX8).trans HX8.out)
     have lX9 := lt_row HX9.out
     have HY9 := Lib.hid ((hb.block _ lY8).trans HY8.out)
     have lY9 := lt_row HY9.out
     have HBL9 := Lib.hid (HBL8.out.trans (hb.mono HBL8.out.size))
     have z9 := HBL9.out.size
     clear hb z8 lP8 lO8 lX8 lY8
     go_wp2_with fail
     refine (C7.out w9 (HV.out.below HBL9.out)).mono ?_
     rintro e w10 ⟨rfl, hb⟩
     have HP10 := Lib.hid ((hb.block _ lP9).trans HP9.out)
     have lP10 := lt_row HP10.out
     have HO10 := Lib.hid ((hb.block _ lO9).trans HO9.out)
     have lO10 := lt_row HO10.out
     have HX10 := Lib.hid ((hb.block _ lX9).trans HX9.out)
     have lX10 := lt_row HX10.out
     have HY10 := Lib.hid ((hb.block _ lY9).trans HY9.out)
     have lY10 := lt_row HY10.out
     have HBL10 := Lib.hid (HBL9.out.trans (hb.mono HBL9.out.size))
     have z10 := HBL10.out.size
     clear hb z9 lP9 lO9 lX9 lY9
     go_wp2_with (first | (refine wpList_store_rowA rfl _ _ _ rfl w10.heap.size U rfl rfl _ _ (heap_new _ _) HUS.out (by rw [← HUN.out]; rfl) HUO.out ?_) | fail)
     intro u1 hu1
     have hb : Below w10.heap.size w10 u1 := by rw [hu1.out]; exact below_row ((Below.refl _ _).alloc (Nat.le_refl _) _) (Nat.le_refl _) _
     have hy : u1.heap[w10.heap.size]? = some (.cells U 27 (0, 0)) := by rw [hu1.out]; exact setRow_at (heap_new _ _)
     clear hu1
     obtain ⟨w11, hww⟩ : ∃ w', w' = u1 := ⟨_, rfl⟩
     rw [← hww] at hb hy ⊢
     clear hww
     obtain ⟨BU, hBU⟩ : ∃ B, B = w10.heap.size := ⟨_, rfl⟩
     rw [← hBU] at hy ⊢
     have gU : w.heap.size ≤ BU := by omega
     clear hBU
     have Hyn := Lib.hid hy
     clear hy
     have HP11 := Lib.hid ((hb.block _ lP10).trans HP10.out)
     have lP11 := lt_row HP11.out
     have HO11 := Lib.hid ((hb.block _ lO10).trans HO10.out)
     have lO11 := lt_row HO11.out
     have HX11 := Lib.hid ((hb.block _ lX10).trans HX10.out)
     have lX11 := lt_row HX11.out
     have HY11 := Lib.hid ((hb.block _ lY10).trans HY10.out)
     have lY11 := lt_row HY11.out
     have HBL11 := Lib.hid (HBL10.out.trans (hb.mono HBL10.out.size))
     have z11 := HBL11.out.size
     clear hb z10 lP10 lO10 lX10 lY10
     have HU11 := Lib.hid Hyn.out
     have lU11 := lt_row HU11.out
     clear Hyn
     go_wp2_with fail
     refine (C8.out w11 (HV.out.below HBL11.out)).mono ?_
     rintro e w12 ⟨rfl, hb⟩
     have HP12 := Lib.hid ((hb.block _ lP11).trans HP11.out)
     have lP12 := lt_row HP12.out
     have HO12 := Lib.hid ((hb.block _ lO11).trans HO11.out)
     have lO12 := lt_row HO12.out
     have HX12 := Lib.hid ((hb.block _ lX11).trans HX11.out)
     have lX12 := lt_row HX12.out
     have HY12 := Lib.hid ((hb.block _ lY11).trans HY11.out)
     have lY12 := lt_row HY12.out
     have HU12 := Lib.hid ((hb.block _ lU11).trans HU11.out)
     have lU12 := lt_row HU12.out
     have HBL12 := Lib.hid (HBL11.out.trans (hb.mono HBL11.out.size))
     have z12 := HBL12.out.size
     clear hb z11 lP11 lO11 lX11 lY11 lU11
     go_wp2_with (first | (refine wpList_store_rowA rfl _ _ _ rfl w12.heap.size V rfl rfl _ _ (heap_new _ _) HVS.out (by rw [← HVN.out]; rfl) HVO.out ?_) | fail)
     intro u1 hu1
     have hb : Below w12.heap.size w12 u1 := by rw [hu1.out]; exact below_row ((Below.refl _ _).alloc (Nat.le_refl _) _) (Nat.le_refl _) _
     have hy : u1.heap[w12.heap.size]? = some (.cells V 25 (0, 0)) := by rw [hu1.out]; exact setRow_at (heap_new _ _)
     clear hu1
     obtain ⟨w13, hww⟩ : ∃ w', w' = u1 := ⟨_, rfl⟩
     rw [← hww] at hb hy ⊢
     clear hww
     obtain ⟨BV, hBV⟩ : ∃ B, B = w12.heap.size := ⟨_, rfl⟩
     rw [← hBV] at hy ⊢
     have gV : w.heap.size ≤ BV := by omega
     clear hBV
     have Hyn := Lib.hid hy
     clear hy
     have HP13 := Lib.hid ((hb.block _ lP12).trans HP12.out)
     have lP13 := lt_row HP13.out
     have HO13 := Lib.hid ((hb.block _ lO12).trans HO12.out)
     have lO13 := lt_row HO13.out
     have HX13 := Lib.hid ((hb.block _ lX12).trans HX12.out)
     have lX13 := lt_row HX13.out
     have HY13 := Lib.hid ((hb.block _ lY12).trans HY12.out)
     have lY13 := lt_row HY13.out
     have HU13 := Lib.hid ((hb.block _ lU12).trans HU12.out)
     have lU13 := lt_row HU13.out
     have HBL13 := Lib.hid (HBL12.out.trans (hb.mono HBL12.out.size))
     have z13 := HBL13.out.size
     clear hb z12 lP12 lO12 lX12 lY12 lU12
     have HV13 := Lib.hid Hyn.out
     have lV13 := lt_row HV13.out
     clear Hyn
     rcases Hf5.out with ⟨rfl, rfl⟩ | ⟨h5, g5⟩ <;> rcases Hf6.out with ⟨rfl, rfl⟩ | ⟨h6, g6⟩
     · have hne := Hf9.out rfl rfl
       go_wp2
       go_ret
       exact ⟨rfl, HBL13.out⟩
     all_goals
       (go_wp2
        go_ret
        exact ⟨rfl, HBL13.out⟩))


end Go.Proofs.YtdmonfimdinkeaaGreatDoor.HdM
