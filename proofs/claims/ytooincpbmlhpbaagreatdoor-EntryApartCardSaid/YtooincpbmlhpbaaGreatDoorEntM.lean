/-
  WHAT IS PROVED: the statement's function that reads entries back from their bytes answers true. Condition: the variables hold what 'VarsI' and 'VarsH' say, and the strings are not longer than the theorem says.
-/
import Derived.Test.YtooincpbmlhpbaaGreatDoorEntU
namespace Go.Proofs.YtooincpbmlhpbaaGreatDoor.EntM
open Go Go.RowKit Go.Shelf Go.Proofs.YtooincpbmlhpbaaGreatDoor Go.Proofs.YtooincpbmlhpbaaGreatDoor.OctetS Go.Proofs.YtooincpbmlhpbaaGreatDoor.IdentS Go.Proofs.YtooincpbmlhpbaaGreatDoor.EntS Go.Proofs.YtooincpbmlhpbaaGreatDoor.OctG Go.Proofs.YtooincpbmlhpbaaGreatDoor.IdentP Go.Proofs.YtooincpbmlhpbaaGreatDoor.EntP Go.Proofs.YtooincpbmlhpbaaGreatDoor.EventC Go.Proofs.YtooincpbmlhpbaaGreatDoor.ShaA Go.Proofs.YtooincpbmlhpbaaGreatDoor.Steps Go.Proofs.YtooincpbmlhpbaaGreatDoor.KeyA Go.Proofs.YtooincpbmlhpbaaGreatDoor.EntB Go.Proofs.YtooincpbmlhpbaaGreatDoor.EntQ
set_option linter.unusedVariables false
set_option linter.unusedSimpArgs false
attribute [-go_sem] run_equalIn_agg

theorem eq_row {p : Array Value} {r : ByteArray} {ep ix : Int} {pv : List UInt8} {e sg : ByteArray} (hp : EntP p r ep ix pv e sg) (w : World) : (Op.equalIn 10000 25 (.agg p) (.agg p)).run Tryz.prog w = .ok true w := by
  rw [hp.eq, EqEnt.eqEnt _ _ _ _ _ _ _ _ _ _ _ _ hp.len hp.len, EqHash.hEq_self]
  simp
theorem room_le {x : Ent} (h : Right x) : x.room.length ≤ 8192 := by
  have h' : Right { x with prev := WireT.zero32 } := ⟨h.room, h.ep0, h.ep1, h.ix0, h.ix1, h.ev, h.sig⟩
  obtain ⟨_, h2⟩ := fits_iff.1 (h'.fits rfl)
  exact h2 x.room (by simp [parts])
theorem list2_len {a b : List UInt8} (ha : a.length ≤ 8192) (hb : b.length ≤ 8192) : (OctetS.list [a, b]).length ≤ 20000 := by
  have h := EntX.flat_len [a, b] (fun t ht => by
    simp only [List.mem_cons, List.not_mem_nil, or_false] at ht
    rcases ht with rfl | rfl
    · exact ha
    · exact hb)
  have h5 := OctetS.num_length2 (n := 2) (by omega)
  have h2 : ([a, b].flatMap OctetS.text).length ≤ 8194 * 2 := h
  show (OctetS.num 2 ++ [a, b].flatMap OctetS.text).length ≤ 20000
  rw [List.length_append]
  omega
theorem bytesW_len (x : Ent) : (bytesW x).1.length ≤ 20000 := by
  rw [EntY.bytesW_ok]
  split
  · rename_i hc
    split
    · exact list2_len (by assumption) (check_iff.1 hc).sig
    · simp
  · simp
/-- A row that was parsed. -/
theorem rowOf (y : Ent) (hp : y.prev.length = 32) : EntP (entA (bsOf y.room) y.ep y.ix y.prev (bsOf y.ev) (bsOf y.sig)) (bsOf y.room) y.ep y.ix y.prev (bsOf y.ev) (bsOf y.sig) := ⟨rfl, hp⟩
theorem entOf_row (y : Ent) : entOf (bsOf y.room) y.ep y.ix y.prev (bsOf y.ev) (bsOf y.sig) = y := by
  unfold entOf
  rw [bl_bsOf, bl_bsOf, bl_bsOf]
theorem row_entOf {p : Array Value} {r : ByteArray} {ep ix : Int} {pv : List UInt8} {e sg : ByteArray} (hp : EntP p r ep ix pv e sg) : entA (bsOf (entOf r ep ix pv e sg).room) (entOf r ep ix pv e sg).ep (entOf r ep ix pv e sg).ix (entOf r ep ix pv e sg).prev (bsOf (entOf r ep ix pv e sg).ev) (bsOf (entOf r ep ix pv e sg).sig) = p := by
  rw [hp.eq]
  unfold entOf
  simp only [bsOf_bl]
/-- What Parse answers is a row, with its bounds. -/
theorem parse_row (s : ByteArray) (hs : s.size ≤ 140737488351232) : ∃ (X : Array Value) (W : Int) (r : ByteArray) (ep ix : Int) (pv : List UInt8) (e g : ByteArray), EntP X r ep ix pv e g ∧ r.size ≤ 8192 ∧ e.size ≤ 8192 ∧ g.size ≤ 8192 ∧ WireT.entV (WireS.parse (bl s)) = .tuple #[.agg X, .int .i64 W] ∧
    (W = 0 → ∃ y, WireS.parse (bl s) = some y ∧ entOf r ep ix pv e g = y) := by
  cases hx : WireS.parse (bl s) with
  | none => exact ⟨WireT.entZ, 6, ⟨#[]⟩, 0, 0, WireT.zero32, ⟨#[]⟩, ⟨#[]⟩, ⟨rfl, rfl⟩, by decide, by decide, by decide, rfl, fun h => by cases h⟩
  | some y =>
    obtain ⟨hR, hp, ht, hb⟩ := parse_ok hx
    exact ⟨_, 0, bsOf y.room, y.ep, y.ix, y.prev, bsOf y.ev, bsOf y.sig, rowOf y hp, by rw [size_bsOf]; exact room_le hR, by rw [size_bsOf]; exact hR.ev, by rw [size_bsOf]; exact hR.sig, rfl, fun _ => ⟨y, rfl, entOf_row y⟩⟩

theorem partA (p : Array Value) (r : ByteArray) (ep ix : Int) (pv : List UInt8) (e sg : ByteArray) (hp : EntP p r ep ix pv e sg) (hr : r.size ≤ 140737488351232) (he : e.size ≤ maxLen) (hs : sg.size ≤ maxLen) :
    ∃ (T1 : ByteArray) (W1 : Int) (X : Array Value) (W2 : Int), (∀ w, VarsI w → Calls Tryz.prog 7 #[.agg p] w (RB (.tuple #[.string T1, .int .i64 W1]) w)) ∧ (∀ w, VarsI w → Calls Tryz.prog 8 #[.string T1] w (RB (.tuple #[.agg X, .int .i64 W2]) w)) ∧
      (X.size = 37 ∧ X.all (·.oneCell') = true) ∧ (W1 = 0 → W2 = 0 ∧ X = p) := by
  obtain ⟨x, hx⟩ : ∃ x, x = entOf r ep ix pv e sg := ⟨_, rfl⟩
  have hB := fun w hv => EntY.Bytes_ok w p r ep ix pv e sg hp hv hr he hs
  rw [← hx] at hB
  have hz : (bsOf (bytesW x).1).size ≤ 140737488351232 := by rw [size_bsOf]; have := bytesW_len x; omega
  obtain ⟨X, W2, r2, ep2, ix2, pv2, e2, g2, hX, _, _, _, hV, h0⟩ := parse_row (bsOf (bytesW x).1) hz
  have hP := fun w hv => WireB.Parse_ok w (bsOf (bytesW x).1) hz hv
  rw [hV] at hP
  refine ⟨_, _, X, W2, hB, hP, ⟨hX.size, by rw [hX.eq]; exact WireT.entA_one _ _ _ _ _ _⟩, fun hW => ?_⟩
  rw [bl_bsOf] at hV
  rw [EntY.bytesW_ok] at hW hV
  by_cases hc : checkB x = true
  · rw [if_pos hc] at hW hV
    by_cases ht : (EntS.text x).length ≤ 8192
    · rw [if_pos ht] at hV
      rw [parse_bytes (check_iff.1 hc) (by rw [hx]; exact hp.len) ht] at hV
      have hrow : entA (bsOf x.room) x.ep x.ix x.prev (bsOf x.ev) (bsOf x.sig) = p := by rw [hx]; exact row_entOf hp
      simp only [WireT.entV, hrow] at hV
      simp only [Value.tuple.injEq, Array.mk.injEq, List.cons.injEq, Value.agg.injEq, Value.int.injEq, and_true, true_and] at hV
      exact ⟨hV.2.symm, hV.1.symm⟩
    · rw [if_neg ht] at hW
      cases hW
  · rw [if_neg hc] at hW
    cases hW
theorem partB (s : ByteArray) (hs : s.size ≤ 140737488351232) :
    ∃ (Y : Array Value) (W3 : Int) (T4 : ByteArray) (W4 : Int), (∀ w, VarsI w → Calls Tryz.prog 8 #[.string s] w (RB (.tuple #[.agg Y, .int .i64 W3]) w)) ∧ (∀ w, VarsI w → Calls Tryz.prog 7 #[.agg Y] w (RB (.tuple #[.string T4, .int .i64 W4]) w)) ∧
      (Y.size = 37 ∧ Y.all (·.oneCell') = true) ∧ (W3 = 0 → W4 = 0 ∧ T4 = s) := by
  obtain ⟨Y, W3, r, ep, ix, pv, e, g, hY, hr, he, hg, hV, h0⟩ := parse_row s hs
  have hP := fun w hv => WireB.Parse_ok w s hs hv
  rw [hV] at hP
  refine ⟨Y, W3, _, _, hP, fun w hv => EntY.Bytes_ok w Y r ep ix pv e g hY hv (by omega) (by unfold maxLen; omega) (by unfold maxLen; omega), ⟨hY.size, by rw [hY.eq]; exact WireT.entA_one _ _ _ _ _ _⟩, fun hW => ?_⟩
  obtain ⟨y, hy, hyy⟩ := h0 hW
  obtain ⟨hR, hp, ht, hb⟩ := parse_ok hy
  rw [hyy, EntY.bytesW_ok, if_pos (check_iff.2 hR), if_pos ht]
  exact ⟨rfl, by rw [hb, bsOf_bl]⟩
theorem partC (p P2 : Array Value) (r : ByteArray) (ep ix : Int) (pv : List UInt8) (e sg : ByteArray) (hp : EntP p r ep ix pv e sg) (hp2 : EntP P2 r ep ix pv e ⟨#[]⟩) (hr : r.size ≤ 140737488351232) (he : e.size ≤ maxLen) (hs : sg.size ≤ maxLen) :
    ∃ (T5 : ByteArray) (W5 : Int) (T6 : ByteArray) (W6 : Int), (∀ w, VarsI w → Calls Tryz.prog 9 #[.agg p] w (RB (.tuple #[.string T5, .int .i64 W5]) w)) ∧ (∀ w, VarsI w → Calls Tryz.prog 9 #[.agg P2] w (RB (.tuple #[.string T6, .int .i64 W6]) w)) ∧
      (W5 = 0 → W6 = 0 ∧ T5 = T6) := by
  refine ⟨_, _, _, _, fun w hv => Text_ok w p r ep ix pv e sg hp hv hr he hs, fun w hv => Text_ok w P2 r ep ix pv e ⟨#[]⟩ hp2 hv hr he (by decide +kernel), fun h => ?_⟩
  unfold EntS.textOf
  cases hc : checkB (entOf r ep ix pv e sg) with
  | false => rw [hc] at h; cases h
  | true =>
    have hR := check_iff.1 hc
    have hc2 : checkB (entOf r ep ix pv e ⟨#[]⟩) = true := check_iff.2 ⟨hR.room, hR.ep0, hR.ep1, hR.ix0, hR.ix1, hR.ev, (by show (bl ⟨#[]⟩).length ≤ 8192; decide)⟩
    rw [hc2]
    exact ⟨rfl, rfl⟩

set_option maxRecDepth 100000 in
set_option maxHeartbeats 4000000 in
theorem back_ok (w : World) (hv : VarsI w) (hk : VarsH w) (p : Array Value) (r : ByteArray) (ep ix : Int) (pv : List UInt8) (e sg : ByteArray) (hp : EntP p r ep ix pv e sg) (s : ByteArray) (hr : r.size ≤ 140737488351232) (he : e.size ≤ maxLen) (hs : sg.size ≤ maxLen) (ht : s.size ≤ 140737488351232) :
    Calls Tryz.prog 3 #[.agg p, .string s] w (RB (.bool true) w) := by
  obtain ⟨P2, hP2⟩ : ∃ E, E = entA r ep ix pv e ⟨#[]⟩ := ⟨_, rfl⟩
  have hp2 : EntP P2 r ep ix pv e ⟨#[]⟩ := ⟨hP2, hp.len⟩
  have hset : p.setIfInBounds 36 (.string ⟨#[]⟩) = P2 := by rw [hp.eq, hP2, EntW.entA_set36 _ _ _ _ _ _ _ hp.len]
  obtain ⟨T1, W1, X, W2, a1, a2, ⟨hXn, hXo⟩, a3⟩ := partA p r ep ix pv e sg hp hr he hs
  obtain ⟨Y, W3, T4, W4, b1, b2, ⟨hYn, hYo⟩, b3⟩ := partB s ht
  obtain ⟨T5, W5, T6, W6, c1, c2, c3⟩ := partC p P2 r ep ix pv e sg hp hp2 hr he hs
  have heq : ∀ w, (Op.equalIn 10000 25 (.agg p) (.agg p)).run Tryz.prog w = .ok true w := fun w => eq_row hp w
  have hGE := EqEnt.guardEnt
  have h36 := hp.c36
  have HpS : Hid ((Tryz.prog.info? 25).map (·.size) = some p.size) := Lib.hid (by rw [hp.size]; kernel_rfl)
  have HpN : Hid (37 = p.size) := Lib.hid (hp.size).symm
  have HXS : Hid ((Tryz.prog.info? 25).map (·.size) = some X.size) := Lib.hid (by rw [hXn]; kernel_rfl)
  have HXN : Hid (37 = X.size) := Lib.hid (hXn).symm
  have HYS : Hid ((Tryz.prog.info? 25).map (·.size) = some Y.size) := Lib.hid (by rw [hYn]; kernel_rfl)
  have HYN : Hid (37 = Y.size) := Lib.hid (hYn).symm
  have HP2S : Hid ((Tryz.prog.info? 25).map (·.size) = some P2.size) := Lib.hid (by rw [hp2.size]; kernel_rfl)
  have HP2N : Hid (37 = P2.size) := Lib.hid (hp2.size).symm
  have HpO : Hid (p.all (·.oneCell') = true) := Lib.hid (by rw [hp.eq]; exact WireT.entA_one _ _ _ _ _ _)
  have HXO := Lib.hid hXo
  have HYO := Lib.hid hYo
  have A1 := Lib.hid a1
  have A2 := Lib.hid a2
  have A3 := Lib.hid a3
  have B1 := Lib.hid b1
  have B2 := Lib.hid b2
  have B3 := Lib.hid b3
  have C1 := Lib.hid c1
  have C2 := Lib.hid c2
  have C3 := Lib.hid c3
  have Hset := Lib.hid hset
  have H36 := Lib.hid h36
  have HEQ := Lib.hid heq
  have HGE := Lib.hid hGE
  have HV := Lib.hid hv
  have HK := Lib.hid hk
  clear hset h36 a1 a2 a3 b1 b2 b3 c1 c2 c3 hXn hXo hYn hYo hv hk heq hGE hp2 hP2 hp hr he hs
  obtain ⟨w0, hw0⟩ : ∃ w0, w0 = w.alloc (.cells p 25) := ⟨_, rfl⟩
  have hb0 : Below w.heap.size w w0 := by rw [hw0]; exact (Below.refl _ _).alloc (Nat.le_refl _) _
  have HP0 : Hid (w0.heap[w.heap.size]? = some (.cells p 25 (0, 0))) := Lib.hid (by rw [hw0]; exact heap_new _ _)
  have lP0 := lt_row HP0.out
  have HBL0 := Lib.hid hb0
  have HW0 := Lib.hid hw0
  have z0 := hb0.size
  clear hw0 hb0
  go_enter Tryz.func3, Tryz.ntmps3
  go_wp2_with fail
  rw [← HW0.out]
  refine (lives_ok w0 (HV.out.below HBL0.out) (HK.out.below HBL0.out)).mono ?_
  rintro e' w1 ⟨rfl, hb⟩
  have HP1 := Lib.hid ((hb.block _ lP0).trans HP0.out)
  have lP1 := lt_row HP1.out
  have HBL1 := Lib.hid (HBL0.out.trans (hb.mono HBL0.out.size))
  have z1 := HBL1.out.size
  clear hb z0 lP0
  go_wp2_with (first | (refine wpList_load_row rfl _ _ rfl w.heap.size rfl _ p (0, 0) _ HP1.out Tryz.underlying25 rfl HpS.out ?_) | fail)
  refine (A1.out w1 (HV.out.below HBL1.out)).mono ?_
  rintro e w2 ⟨rfl, hb⟩
  have HP2 := Lib.hid ((hb.block _ lP1).trans HP1.out)
  have lP2 := lt_row HP2.out
  have HBL2 := Lib.hid (HBL1.out.trans (hb.mono HBL1.out.size))
  have z2 := HBL2.out.size
  clear hb z1 lP1
  go_wp2_with fail
  refine (A2.out w2 (HV.out.below HBL2.out)).mono ?_
  rintro e w3 ⟨rfl, hb⟩
  have HP3 := Lib.hid ((hb.block _ lP2).trans HP2.out)
  have lP3 := lt_row HP3.out
  have HBL3 := Lib.hid (HBL2.out.trans (hb.mono HBL2.out.size))
  have z3 := HBL3.out.size
  clear hb z2 lP2
  go_wp2_with (first | (refine wpList_store_rowA rfl _ _ _ rfl w3.heap.size X rfl rfl _ _ (heap_new _ _) HXS.out (by rw [← HXN.out]; rfl) HXO.out ?_) | fail)
  intro u1 hu1
  have hb : Below w3.heap.size w3 u1 := by rw [hu1.out]; exact below_row ((Below.refl _ _).alloc (Nat.le_refl _) _) (Nat.le_refl _) _
  have hy : u1.heap[w3.heap.size]? = some (.cells X 25 (0, 0)) := by rw [hu1.out]; exact setRow_at (heap_new _ _)
  clear hu1
  obtain ⟨w4, hww⟩ : ∃ w', w' = u1 := ⟨_, rfl⟩
  rw [← hww] at hb hy ⊢
  clear hww
  obtain ⟨BX, hBX⟩ : ∃ B, B = w3.heap.size := ⟨_, rfl⟩
  rw [← hBX] at hy ⊢
  have gX : w.heap.size ≤ BX := by omega
  clear hBX
  have Hyn := Lib.hid hy
  clear hy
  have HP4 := Lib.hid ((hb.block _ lP3).trans HP3.out)
  have lP4 := lt_row HP4.out
  have HBL4 := Lib.hid (HBL3.out.trans (hb.mono HBL3.out.size))
  have z4 := HBL4.out.size
  clear hb z3 lP3
  have HX4 := Lib.hid Hyn.out
  have lX4 := lt_row HX4.out
  clear Hyn
  go_wp2_with fail
  refine (B1.out w4 (HV.out.below HBL4.out)).mono ?_
  rintro e w5 ⟨rfl, hb⟩
  have HP5 := Lib.hid ((hb.block _ lP4).trans HP4.out)
  have lP5 := lt_row HP5.out
  have HX5 := Lib.hid ((hb.block _ lX4).trans HX4.out)
  have lX5 := lt_row HX5.out
  have HBL5 := Lib.hid (HBL4.out.trans (hb.mono HBL4.out.size))
  have z5 := HBL5.out.size
  clear hb z4 lP4 lX4
  go_wp2_with (first | (refine wpList_store_rowA rfl _ _ _ rfl w5.heap.size Y rfl rfl _ _ (heap_new _ _) HYS.out (by rw [← HYN.out]; rfl) HYO.out ?_) | fail)
  intro u1 hu1
  have hb : Below w5.heap.size w5 u1 := by rw [hu1.out]; exact below_row ((Below.refl _ _).alloc (Nat.le_refl _) _) (Nat.le_refl _) _
  have hy : u1.heap[w5.heap.size]? = some (.cells Y 25 (0, 0)) := by rw [hu1.out]; exact setRow_at (heap_new _ _)
  clear hu1
  obtain ⟨w6, hww⟩ : ∃ w', w' = u1 := ⟨_, rfl⟩
  rw [← hww] at hb hy ⊢
  clear hww
  obtain ⟨BY, hBY⟩ : ∃ B, B = w5.heap.size := ⟨_, rfl⟩
  rw [← hBY] at hy ⊢
  have gY : w.heap.size ≤ BY := by omega
  clear hBY
  have Hyn := Lib.hid hy
  clear hy
  have HP6 := Lib.hid ((hb.block _ lP5).trans HP5.out)
  have lP6 := lt_row HP6.out
  have HX6 := Lib.hid ((hb.block _ lX5).trans HX5.out)
  have lX6 := lt_row HX6.out
  have HBL6 := Lib.hid (HBL5.out.trans (hb.mono HBL5.out.size))
  have z6 := HBL6.out.size
  clear hb z5 lP5 lX5
  have HY6 := Lib.hid Hyn.out
  have lY6 := lt_row HY6.out
  clear Hyn
  go_wp2_with (first | (refine wpList_load_row rfl _ _ rfl BY rfl _ Y (0, 0) _ HY6.out Tryz.underlying25 rfl HYS.out ?_) | fail)
  refine (B2.out w6 (HV.out.below HBL6.out)).mono ?_
  rintro e w7 ⟨rfl, hb⟩
  have HP7 := Lib.hid ((hb.block _ lP6).trans HP6.out)
  have lP7 := lt_row HP7.out
  have HX7 := Lib.hid ((hb.block _ lX6).trans HX6.out)
  have lX7 := lt_row HX7.out
  have HY7 := Lib.hid ((hb.block _ lY6).trans HY6.out)
  have lY7 := lt_row HY7.out
  have HBL7 := Lib.hid (HBL6.out.trans (hb.mono HBL6.out.size))
  have z7 := HBL7.out.size
  clear hb z6 lP6 lX6 lY6
  go_wp2_with (first | (refine wpList_load_row rfl _ _ rfl w.heap.size rfl _ p (0, 0) _ HP7.out Tryz.underlying25 rfl HpS.out ?_) | fail)
  refine (C1.out w7 (HV.out.below HBL7.out)).mono ?_
  rintro e w8 ⟨rfl, hb⟩
  have HP8 := Lib.hid ((hb.block _ lP7).trans HP7.out)
  have lP8 := lt_row HP8.out
  have HX8 := Lib.hid ((hb.block _ lX7).trans HX7.out)
  have lX8 := lt_row HX8.out
  have HY8 := Lib.hid ((hb.block _ lY7).trans HY7.out)
  have lY8 := lt_row HY8.out
  have HBL8 := Lib.hid (HBL7.out.trans (hb.mono HBL7.out.size))
  have z8 := HBL8.out.size
  clear hb z7 lP7 lX7 lY7
  go_wp2_with (first | (refine wpList_load_row rfl _ _ rfl w.heap.size rfl _ p (0, 0) _ HP8.out Tryz.underlying25 rfl HpS.out ?_) | (refine wpList_store_rowA rfl _ _ _ rfl w8.heap.size p rfl rfl _ _ (heap_new _ _) HpS.out (by rw [← HpN.out]; rfl) HpO.out ?_) | fail)
  intro u1 hu1
  have hb : Below w8.heap.size w8 u1 := by rw [hu1.out]; exact below_row ((Below.refl _ _).alloc (Nat.le_refl _) _) (Nat.le_refl _) _
  have hy : u1.heap[w8.heap.size]? = some (.cells p 25 (0, 0)) := by rw [hu1.out]; exact setRow_at (heap_new _ _)
  clear hu1
  obtain ⟨w9, hww⟩ : ∃ w', w' = u1 := ⟨_, rfl⟩
  rw [← hww] at hb hy ⊢
  clear hww
  obtain ⟨BQ, hBQ⟩ : ∃ B, B = w8.heap.size := ⟨_, rfl⟩
  rw [← hBQ] at hy ⊢
  have gQ : w.heap.size ≤ BQ := by omega
  have hPQ : w.heap.size < BQ := by have := lP8; omega
  have hXQ : BX < BQ := by have := lX8; omega
  clear hBQ
  have Hyn := Lib.hid hy
  clear hy
  have HP9 := Lib.hid ((hb.block _ lP8).trans HP8.out)
  have lP9 := lt_row HP9.out
  have HX9 := Lib.hid ((hb.block _ lX8).trans HX8.out)
  have lX9 := lt_row HX9.out
  have HY9 := Lib.hid ((hb.block _ lY8).trans HY8.out)
  have lY9 := lt_row HY9.out
  have HBL9 := Lib.hid (HBL8.out.trans (hb.mono HBL8.out.size))
  have z9 := HBL9.out.size
  clear hb z8 lP8 lX8 lY8
  have HQ9 := Lib.hid Hyn.out
  have lQ9 := lt_row HQ9.out
  clear Hyn
  obtain ⟨cy, fy⟩ := row_facts HQ9.out
  have kQ := (cy 36).trans H36.out
  have fQ := fy 36
  clear cy fy
  have hYQ := Lib.hid (show (w9.setCell ⟨BQ, 36, none⟩ (.string ⟨#[]⟩)).heap[BQ]? = some (.cells P2 25 (0, 0)) by rw [← Hset.out]; exact heap_setCell_same HQ9.out _)
  have hYP := Lib.hid (show (w9.setCell ⟨BQ, 36, none⟩ (.string ⟨#[]⟩)).heap[w.heap.size]? = some (.cells p 25 (0, 0)) by rw [heap_setCell_far _ (by omega)]; exact HP9.out)
  have hYX := Lib.hid (show (w9.setCell ⟨BQ, 36, none⟩ (.string ⟨#[]⟩)).heap[BX]? = some (.cells X 25 (0, 0)) by rw [heap_setCell_far _ (by omega)]; exact HX9.out)
  have hYW := Lib.hid (show Below w.heap.size w (w9.setCell ⟨BQ, 36, none⟩ (.string ⟨#[]⟩)) from HBL9.out.setCell (p := ⟨BQ, 36, none⟩) (by show w.heap.size ≤ BQ; omega) _)
  go_wp2_with (first | (refine wpList_load_row rfl _ _ rfl BQ rfl _ P2 (0, 0) _ hYQ.out Tryz.underlying25 rfl HP2S.out ?_) | fail)
  refine (C2.out _ (HV.out.below hYW.out)).mono ?_
  rintro e' wz ⟨rfl, hb⟩
  have hZP := Lib.hid ((hb.block _ (lt_row hYP.out)).trans hYP.out)
  have hZX := Lib.hid ((hb.block _ (lt_row hYX.out)).trans hYX.out)
  have hZW := Lib.hid (hYW.out.trans (hb.mono hYW.out.size))
  clear hb kQ fQ
  have heq := HEQ.out
  have hGE := HGE.out
  have hfin : (W1 = 0 ∧ W2 = 0 ∧ X = p) ∨ (¬ W1 = 0 ∧ (W1 == 0) = false) := by
    by_cases h : W1 = 0
    · exact .inl ⟨h, A3.out h⟩
    · exact .inr ⟨h, by simpa using h⟩
  have hfin2 : (W3 = 0 ∧ W4 = 0 ∧ T4 = s) ∨ (¬ W3 = 0 ∧ (W3 == 0) = false) := by
    by_cases h : W3 = 0
    · exact .inl ⟨h, B3.out h⟩
    · exact .inr ⟨h, by simpa using h⟩
  have hfin3 : (W5 = 0 ∧ W6 = 0 ∧ T5 = T6) ∨ (¬ W5 = 0 ∧ (W5 == 0) = false) := by
    by_cases h : W5 = 0
    · exact .inl ⟨h, C3.out h⟩
    · exact .inr ⟨h, by simpa using h⟩
  clear A1 A2 A3 B1 B2 B3 C1 C2 C3
  rcases hfin with ⟨rfl, rfl, rfl⟩ | ⟨h1, g1⟩ <;> rcases hfin2 with ⟨rfl, rfl, rfl⟩ | ⟨h3, g3⟩ <;> rcases hfin3 with ⟨rfl, rfl, rfl⟩ | ⟨h5, g5⟩ <;>
    (go_wp2_with (first | (refine WireT.wpList_load_rowG (by rfl) _ _ rfl BX rfl _ _ (0, 0) _ hZX.out Tryz.underlying25 rfl (by first | exact HXS.out | exact HpS.out) ?_) | (refine WireT.wpList_load_rowG (by rfl) _ _ rfl w.heap.size rfl _ _ (0, 0) _ hZP.out Tryz.underlying25 rfl (by first | exact HpS.out | exact HXS.out) ?_) | fail)
     go_ret
     exact ⟨by simp_all, hZW.out⟩)


end Go.Proofs.YtooincpbmlhpbaaGreatDoor.EntM
