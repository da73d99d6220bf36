/-
  WHAT IS PROVED: the statement's function that reads deals back from their bytes, and tells which answers fit, answers true. Condition: the variables hold what 'VarsD' and 'VarsH' say, and the strings are not longer than the theorem says.
-/
import Derived.Test.YtdmonfimdinkeaaGreatDoorDlI
import Derived.Test.YtdmonfimdinkeaaGreatDoorDlQ
namespace Go.Proofs.YtdmonfimdinkeaaGreatDoor.DlM
open Go Go.RowKit Go.Shelf Go.Proofs.YtdmonfimdinkeaaGreatDoor Go.Proofs.YtdmonfimdinkeaaGreatDoor.OctetS Go.Proofs.YtdmonfimdinkeaaGreatDoor.IdentS Go.Proofs.YtdmonfimdinkeaaGreatDoor.EntS Go.Proofs.YtdmonfimdinkeaaGreatDoor.OctG Go.Proofs.YtdmonfimdinkeaaGreatDoor.IdentP Go.Proofs.YtdmonfimdinkeaaGreatDoor.EntP Go.Proofs.YtdmonfimdinkeaaGreatDoor.EventC Go.Proofs.YtdmonfimdinkeaaGreatDoor.ShaA Go.Proofs.YtdmonfimdinkeaaGreatDoor.Steps Go.Proofs.YtdmonfimdinkeaaGreatDoor.KeyA Go.Proofs.YtdmonfimdinkeaaGreatDoor.KeyS Go.Proofs.YtdmonfimdinkeaaGreatDoor.KeyI Go.Proofs.YtdmonfimdinkeaaGreatDoor.KeyK Go.Proofs.YtdmonfimdinkeaaGreatDoor.TreeA Go.Proofs.YtdmonfimdinkeaaGreatDoor.EntK Go.Proofs.YtdmonfimdinkeaaGreatDoor.BookA Go.Proofs.YtdmonfimdinkeaaGreatDoor.EntL Go.Proofs.YtdmonfimdinkeaaGreatDoor.WireS Go.Proofs.YtdmonfimdinkeaaGreatDoor.WireT Go.Proofs.YtdmonfimdinkeaaGreatDoor.WireD Go.Proofs.YtdmonfimdinkeaaGreatDoor.DlV Go.Proofs.YtdmonfimdinkeaaGreatDoor.DlT Go.Proofs.YtdmonfimdinkeaaGreatDoor.DlL Go.Proofs.YtdmonfimdinkeaaGreatDoor.KeyG
open Go.Proofs.YtdmonfimdinkeaaGreatDoor.EntQ (ring_below)
set_option linter.unusedVariables false
set_option linter.unusedSimpArgs false
attribute [-go_sem] run_equalIn_agg

def EqR (X p : Array Value) : Prop := ∀ w, (Op.equalIn 10000 39 (.agg X) (.agg p)).run Tryz.prog w = .ok true w
theorem dl_back (k : Int) (r : ByteArray) (ep ix hub next : Int) (sg : ByteArray) : dlV (some (dlOf k r ep ix hub next sg)) = .tuple #[.agg (dlA k r ep ix hub next sg), .int .i64 0] := by
  unfold dlV dlOf
  simp only [bsOf_bl]
theorem bytes_len (x : Dl) : (DlS.bytesW x).1.length ≤ 20000 := by
  rw [dbytes_ok]
  split
  · rename_i hc
    split
    · rename_i h1
      have hs := (DlS.check_iff.1 hc).sig
      have h := EntX.flat_len [DlS.text x, x.sig] (fun t ht => by
        simp only [List.mem_cons, List.not_mem_nil, or_false] at ht
        rcases ht with rfl | rfl
        · exact h1
        · exact hs)
      have h5 := OctetS.num_length2 (n := 2) (by omega)
      have h2 : ([DlS.text x, x.sig].flatMap OctetS.text).length ≤ 8194 * 2 := h
      show (OctetS.num 2 ++ [DlS.text x, x.sig].flatMap OctetS.text).length ≤ 20000
      rw [List.length_append]
      omega
    · simp
  · simp
theorem partA (p : Array Value) (k : Int) (r : ByteArray) (ep ix hub next : Int) (sg : ByteArray) (hp : p = dlA k r ep ix hub next sg) (k0 : 0 ≤ k) (k1 : k ≤ 255) (hr : r.size ≤ 140737488351232) (hs : sg.size ≤ maxLen) :
    ∃ (T : ByteArray) (W1 : Int) (X : Array Value) (W2 : Int), (∀ w, VarsD w → Calls Tryz.prog 23 #[.agg p] w (RB (.tuple #[.string T, .int .i64 W1]) w)) ∧ (∀ w, VarsD w → Calls Tryz.prog 25 #[.string T] w (RB (.tuple #[.agg X, .int .i64 W2]) w)) ∧
      (X.size = 7 ∧ X.all (·.oneCell') = true) ∧ (W1 = 0 → W2 = 0 ∧ EqR X p) := by
  have h1 := fun w hv => P_Bytes w p k r ep ix hub next sg hp hv k0 k1 hr hs
  obtain ⟨T, hT⟩ : ∃ T, T = bsOf (DlS.bytesW (dlOf k r ep ix hub next sg)).1 := ⟨_, rfl⟩
  rw [← hT] at h1
  have hTz : T.size ≤ 140737488351232 := by
    rw [hT, size_bsOf]
    have := bytes_len (dlOf k r ep ix hub next sg)
    omega
  have h2 := fun w hv => WireD.d_Parse w T hTz hv
  obtain ⟨X, W2, k', r', ep', ix', hub', next', g', hX, _, _, _, _, hV, _⟩ := DlI.parse_row T
  rw [hV] at h2
  refine ⟨T, _, X, W2, h1, h2, ⟨by rw [hX]; rfl, by rw [hX]; simp [dlA, Value.oneCell']⟩, fun hW => ?_⟩
  rw [dbytes_ok] at hW hT
  cases hc : checkD (dlOf k r ep ix hub next sg)
  · rw [hc, if_neg (by simp)] at hW
    cases hW
  · rw [hc, if_pos rfl] at hW hT
    by_cases hl : (DlS.text (dlOf k r ep ix hub next sg)).length ≤ 8192
    · rw [if_pos hl] at hT
      have h3 := DlS.parse_bytes (DlS.check_iff.1 hc) hl
      rw [hT, bl_bsOf, h3, dl_back, ← hp] at hV
      have h4 : X = p ∧ W2 = 0 := by
        simp only [Value.tuple.injEq, Array.mk.injEq, List.cons.injEq, Value.agg.injEq, Value.int.injEq, true_and, and_true] at hV
        exact ⟨hV.1.symm, hV.2.symm⟩
      exact ⟨h4.2, fun w => by rw [h4.1]; exact DlT.eq_self _ _ _ _ _ _ _ hp w⟩
    · rw [if_neg hl] at hW
      cases hW
theorem partB (s : ByteArray) (ht : s.size ≤ 140737488351232) :
    ∃ (Y : Array Value) (W3 : Int) (T4 : ByteArray) (W4 : Int), (∀ w, VarsD w → Calls Tryz.prog 25 #[.string s] w (RB (.tuple #[.agg Y, .int .i64 W3]) w)) ∧ (∀ w, VarsD w → Calls Tryz.prog 23 #[.agg Y] w (RB (.tuple #[.string T4, .int .i64 W4]) w)) ∧
      (Y.size = 7 ∧ Y.all (·.oneCell') = true) ∧ (W3 = 0 → W4 = 0 ∧ (T4.toList == s.toList) = true) := by
  have h1 := fun w hv => WireD.d_Parse w s ht hv
  obtain ⟨Y, W3, k', r', ep', ix', hub', next', g', hY, k0, k1, hr, hg, hV, hP⟩ := DlI.parse_row s
  rw [hV] at h1
  have h2 := fun w hv => P_Bytes w Y k' r' ep' ix' hub' next' g' hY hv k0 k1 (by omega) (by unfold maxLen; omega)
  refine ⟨Y, W3, _, _, h1, h2, ⟨by rw [hY]; rfl, by rw [hY]; simp [dlA, Value.oneCell']⟩, fun hW => ?_⟩
  obtain ⟨hR, hl, hb⟩ := DlS.parse_ok (hP hW)
  rw [dbytes_ok, DlS.check_iff.2 hR, if_pos rfl, if_pos hl]
  refine ⟨rfl, ?_⟩
  show ((bsOf (DlS.bytesE _)).toList == s.toList) = true
  rw [hb, bsOf_bl]
  simp
theorem partC (p q : Array Value) (k : Int) (r : ByteArray) (ep ix hub next : Int) (sg : ByteArray) (k' : Int) (r' : ByteArray) (ep' ix' hub' next' : Int) (sg' : ByteArray) (hp : p = dlA k r ep ix hub next sg) (hq : q = dlA k' r' ep' ix' hub' next' sg') (k0 : 0 ≤ k) (k1 : k ≤ 255) (k0' : 0 ≤ k') (k1' : k' ≤ 255) (hr : r.size ≤ 140737488351232) (hs : sg.size ≤ maxLen) (hr' : r'.size ≤ 140737488351232) (hs' : sg'.size ≤ maxLen) :
    ∃ (A E : Array Value) (W5 W6 : Int) (f b : Bool), (∀ w, VarsD w → Calls Tryz.prog 27 #[.agg p] w (RB (.tuple #[.agg A, .int .i64 W5]) w)) ∧ (∀ w, VarsD w → Calls Tryz.prog 31 #[.agg p, .agg q] w (RB (.bool f) w)) ∧ (∀ w, VarsD w → Calls Tryz.prog 29 #[.agg q] w (RB (.int .i64 W6) w)) ∧
      (A.size = 7 ∧ A.all (·.oneCell') = true) ∧ q.setIfInBounds 6 (.string ⟨#[]⟩) = E ∧ q[6]? = some (.string sg') ∧ E.size = 7 ∧
      ((¬ W5 = 0 ∧ (W5 != 0) = true ∧ f = false) ∨ (W5 = 0 ∧ (∀ w, VarsD w → Calls Tryz.prog 31 #[.agg p, .agg A] w (RB (.bool true) w)) ∧ (∀ w, (Op.equalIn 10000 39 (.agg E) (.agg A)).run Tryz.prog w = .ok b w) ∧ ((W6 = 0 ∧ f = b) ∨ ((W6 == 0) = false ∧ f = false)))) := by
  have h1 := fun w hv => P_Answer w p k r ep ix hub next sg hp hv k0 k1 hr hs
  have h2 := fun w hv => P_Fits w p q k r ep ix hub next sg k' r' ep' ix' hub' next' sg' hp hq hv k0 k1 k0' k1' hr hs hr' hs'
  have h3 := fun w (hv : VarsD w) => WireD.d_Check w q k' r' ep' ix' hub' next' sg' hq hv.i k0' hr' hs'
  refine ⟨_, dlA k' r' ep' ix' hub' next' ⟨#[]⟩, _, _, _, (k' == 2 && (r'.toList == r.toList && (ep' == ep && (ix' == ix && (hub' == hub && (next' == next && (⟨#[]⟩ : ByteArray).toList == (⟨#[]⟩ : ByteArray).toList)))))), h1, h2, h3, ⟨by unfold ansA; split <;> rfl, by unfold ansA; split <;> simp [dlA, dlZ, Value.oneCell']⟩, by rw [hq]; rfl, by rw [hq]; rfl, rfl, ?_⟩
  unfold ansA DlS.answerW
  rw [show (dlOf k r ep ix hub next sg).kind = k from rfl]
  cases hc : checkD (dlOf k r ep ix hub next sg)
  · refine .inl ⟨by simp, by simp, ?_⟩
    unfold DlT.fitsB
    rw [hc]
    rfl
  · by_cases hk1 : k = 1
    · rw [if_pos rfl, if_pos hk1, if_pos ⟨rfl, hk1⟩]
      refine .inr ⟨rfl, fun w hv => ?_, fun w => eqDl _ _ _ _ _ _ _ _ _ _ _ _ _ _ w, ?_⟩
      · have h4 := P_Fits w p (dlA 2 r ep ix hub next ⟨#[]⟩) k r ep ix hub next sg 2 r ep ix hub next ⟨#[]⟩ hp rfl hv k0 k1 (by decide) (by decide) hr hs hr (by decide +kernel)
        have hR := DlS.check_iff.1 hc
        have h5 : checkD (dlOf 2 r ep ix hub next ⟨#[]⟩) = true := DlS.check_iff.2 ⟨.inr rfl, hR.room, by simp [dlOf, bl], hR.ep0, hR.ep1, hR.ix0, hR.ix1, hR.hub0, hR.hub1, hR.next0, hR.next1, hR.ne⟩
        have hf : DlT.fitsB k r ep ix hub next sg 2 r ep ix hub next ⟨#[]⟩ = true := by
          unfold DlT.fitsB
          rw [hc, h5, hk1]
          simp
        rw [hf] at h4
        exact h4
      · unfold DlT.fitsB
        rw [hc, decide_eq_true hk1]
        cases checkD (dlOf k' r' ep' ix' hub' next' sg')
        · exact .inr ⟨rfl, by simp⟩
        · refine .inl ⟨rfl, ?_⟩
          simp only [Bool.true_and]
          rw [show decide (k' = 2) = (k' == 2) from by by_cases h : k' = 2 <;> simp [h]]
          simp
    · rw [if_pos rfl, if_neg hk1]
      refine .inl ⟨by decide, by decide, ?_⟩
      unfold DlT.fitsB
      rw [decide_eq_false hk1]
      simp
set_option maxRecDepth 100000 in
set_option maxHeartbeats 4000000 in
theorem fits_ok (w : World) (hv : VarsD w) (hk : VarsH w) (p q : Array Value) (s : ByteArray) (k : Int) (r : ByteArray) (ep ix hub next : Int) (sg : ByteArray) (k' : Int) (r' : ByteArray) (ep' ix' hub' next' : Int) (sg' : ByteArray) (hp : p = dlA k r ep ix hub next sg) (hq : q = dlA k' r' ep' ix' hub' next' sg') (k0 : 0 ≤ k) (k1 : k ≤ 255) (k0' : 0 ≤ k') (k1' : k' ≤ 255) (hr : r.size ≤ 140737488351232) (hs : sg.size ≤ maxLen) (hr' : r'.size ≤ 140737488351232) (hs' : sg'.size ≤ maxLen) (ht : s.size ≤ 140737488351232) :
    Calls Tryz.prog 5 #[.agg p, .agg q, .string s] w (RB (.bool true) w) := by
  obtain ⟨T1, W1, X, W2, a1, a2, ⟨hXn, hXo⟩, a3⟩ := partA p k r ep ix hub next sg hp k0 k1 hr hs
  obtain ⟨Y, W3, T4, W4, b1, b2, ⟨hYn, hYo⟩, b3⟩ := partB s ht
  obtain ⟨A, E, W5, W6, f, b, c1, c2, c3, ⟨hAn, hAo⟩, hE, hq6, hEn, c4⟩ := partC p q k r ep ix hub next sg k' r' ep' ix' hub' next' sg' hp hq k0 k1 k0' k1' hr hs hr' hs'
  have hpn : p.size = 7 := by rw [hp]; rfl
  have hqn : q.size = 7 := by rw [hq]; rfl
  have hqo : q.all (·.oneCell') = true := by rw [hq]; simp [dlA, Value.oneCell']
  have HpS : Hid ((Tryz.prog.info? 39).map (·.size) = some p.size) := Lib.hid (by rw [hpn]; kernel_rfl)
  have HpN : Hid (7 = p.size) := Lib.hid hpn.symm
  have HqS : Hid ((Tryz.prog.info? 39).map (·.size) = some q.size) := Lib.hid (by rw [hqn]; kernel_rfl)
  have HqN : Hid (7 = q.size) := Lib.hid hqn.symm
  have HXS : Hid ((Tryz.prog.info? 39).map (·.size) = some X.size) := Lib.hid (by rw [hXn]; kernel_rfl)
  have HXN : Hid (7 = X.size) := Lib.hid hXn.symm
  have HYS : Hid ((Tryz.prog.info? 39).map (·.size) = some Y.size) := Lib.hid (by rw [hYn]; kernel_rfl)
  have HYN : Hid (7 = Y.size) := Lib.hid hYn.symm
  have HAS : Hid ((Tryz.prog.info? 39).map (·.size) = some A.size) := Lib.hid (by rw [hAn]; kernel_rfl)
  have HAN : Hid (7 = A.size) := Lib.hid hAn.symm
  have HES : Hid ((Tryz.prog.info? 39).map (·.size) = some E.size) := Lib.hid (by rw [hEn]; kernel_rfl)
  have HEN : Hid (7 = E.size) := Lib.hid hEn.symm
  have HXO := Lib.hid hXo
  have HYO := Lib.hid hYo
  have HAO := Lib.hid hAo
  have HqO := Lib.hid hqo
  have A1 := Lib.hid a1
  have A2 := Lib.hid a2
  have B1 := Lib.hid b1
  have B2 := Lib.hid b2
  have C1 := Lib.hid c1
  have C2 := Lib.hid c2
  have C3 := Lib.hid c3
  have C4 := Lib.hid c4
  have HE := Lib.hid hE
  have HQ6 := Lib.hid hq6
  have HGE := Lib.hid guardDl
  have HV := Lib.hid hv
  have HK := Lib.hid hk
  have Hf1 := Lib.hid (show (W1 = 0 ∧ W2 = 0 ∧ EqR X p) ∨ (¬ W1 = 0 ∧ (W1 == 0) = false) by
    by_cases h : W1 = 0
    · exact .inl ⟨h, a3 h⟩
    · exact .inr ⟨h, by simpa using h⟩)
  have Hf3 := Lib.hid (show (W3 = 0 ∧ W4 = 0 ∧ (T4.toList == s.toList) = true) ∨ (¬ W3 = 0 ∧ (W3 == 0) = false) by
    by_cases h : W3 = 0
    · exact .inl ⟨h, b3 h⟩
    · exact .inr ⟨h, by simpa using h⟩)
  clear a1 a2 a3 b1 b2 b3 c1 c2 c3 c4 hXn hXo hYn hYo hAn hAo hE hq6 hEn hpn hqn hqo hv hk hp hq hr hs hr' hs'
  obtain ⟨w0, hw0⟩ : ∃ w0, w0 = (w.alloc (.cells p 39)).alloc (.cells q 39) := ⟨_, rfl⟩
  have hb0 : Below w.heap.size w w0 := by rw [hw0]; exact ((Below.refl _ _).alloc (Nat.le_refl _) _).alloc (by simp) _
  have HP0 : Hid (w0.heap[w.heap.size]? = some (.cells p 39 (0, 0))) := Lib.hid (by rw [hw0]; exact heap_at (heap_new _ _) _)
  have HO0 : Hid (w0.heap[w.heap.size + 1]? = some (.cells q 39 (0, 0))) := Lib.hid (by rw [hw0]; exact heap_new' _ (by simp))
  have lP0 := lt_row HP0.out
  have lO0 := lt_row HO0.out
  have HBL0 := Lib.hid hb0
  have HW0 := Lib.hid hw0
  have z0 := hb0.size
  clear hw0 hb0
  go_enter Tryz.func5, Tryz.ntmps5
  go_wp2_with fail
  rw [← HW0.out]
  refine (DlQ.lives_ok w0 (HV.out.below HBL0.out) (HK.out.below HBL0.out)).mono ?_
  rintro e' w1 ⟨rfl, hb⟩
  have HP1 := Lib.hid ((hb.block _ lP0).trans HP0.out)
  have lP1 := lt_row HP1.out
  have HO1 := Lib.hid ((hb.block _ lO0).trans HO0.out)
  have lO1 := lt_row HO1.out
  have HBL1 := Lib.hid (HBL0.out.trans (hb.mono HBL0.out.size))
  have z1 := HBL1.out.size
  clear hb z0 lP0 lO0
  go_wp2_with (first | (refine wpList_load_row rfl _ _ rfl w.heap.size rfl _ p (0, 0) _ HP1.out Tryz.underlying39 rfl HpS.out ?_) | fail)
  refine (A1.out w1 (HV.out.below HBL1.out)).mono ?_
  rintro e w2 ⟨rfl, hb⟩
  have HP2 := Lib.hid ((hb.block _ lP1).trans HP1.out)
  have lP2 := lt_row HP2.out
  have HO2 := Lib.hid ((hb.block _ lO1).trans HO1.out)
  have lO2 := lt_row HO2.out
  have HBL2 := Lib.hid (HBL1.out.trans (hb.mono HBL1.out.size))
  have z2 := HBL2.out.size
  clear hb z1 lP1 lO1
  go_wp2_with fail
  refine (A2.out w2 (HV.out.below HBL2.out)).mono ?_
  rintro e w3 ⟨rfl, hb⟩
  have HP3 := Lib.hid ((hb.block _ lP2).trans HP2.out)
  have lP3 := lt_row HP3.out
  have HO3 := Lib.hid ((hb.block _ lO2).trans HO2.out)
  have lO3 := lt_row HO3.out
  have HBL3 := Lib.hid (HBL2.out.trans (hb.mono HBL2.out.size))
  have z3 := HBL3.out.size
  clear hb z2 lP2 lO2
  go_wp2_with (first | (refine wpList_store_rowA rfl _ _ _ rfl w3.heap.size X rfl rfl _ _ (heap_new _ _) HXS.out (by rw [← HXN.out]; rfl) HXO.out ?_) | fail)
  intro u1 hu1
  have hb : Below w3.heap.size w3 u1 := by rw [hu1.out]; exact below_row ((Below.refl _ _).alloc (Nat.le_refl _) _) (Nat.le_refl _) _
  have hy : u1.heap[w3.heap.size]? = some (.cells X 39 (0, 0)) := by rw [hu1.out]; exact setRow_at (heap_new _ _)
  clear hu1
  obtain ⟨w4, hww⟩ : ∃ w', w' = u1 := ⟨_, rfl⟩
  rw [← hww] at hb hy ⊢
  clear hww
  obtain ⟨BX, hBX⟩ : ∃ B, B = w3.heap.size := ⟨_, rfl⟩
  rw [← hBX] at hy ⊢
  have gX : w.heap.size ≤ BX := by omega
  clear hBX
  have Hyn := Lib.hid hy
  clear hy
  have HP4 := Lib.hid ((hb.block _ lP3).trans HP3.out)
  have lP4 := lt_row HP4.out
  have HO4 := Lib.hid ((hb.block _ lO3).trans HO3.out)
  have lO4 := lt_row HO4.out
  have HBL4 := Lib.hid (HBL3.out.trans (hb.mono HBL3.out.size))
  have z4 := HBL4.out.size
  clear hb z3 lP3 lO3
  have HX4 := Lib.hid Hyn.out
  have lX4 := lt_row HX4.out
  clear Hyn
  go_wp2_with fail
  refine (B1.out w4 (HV.out.below HBL4.out)).mono ?_
  rintro e w5 ⟨rfl, hb⟩
  have HP5 := Lib.hid ((hb.block _ lP4).trans HP4.out)
  have lP5 := lt_row HP5.out
  have HO5 := Lib.hid ((hb.block _ lO4).trans HO4.out)
  have lO5 := lt_row HO5.out
  have HX5 := Lib.hid ((hb.block _ lX4).trans HX4.out)
  have lX5 := lt_row HX5.out
  have HBL5 := Lib.hid (HBL4.out.trans (hb.mono HBL4.out.size))
  have z5 := HBL5.out.size
  clear hb z4 lP4 lO4 lX4
  go_wp2_with (first | (refine wpList_store_rowA rfl _ _ _ rfl w5.heap.size Y rfl rfl _ _ (heap_new _ _) HYS.out (by rw [← HYN.out]; rfl) HYO.out ?_) | fail)
  intro u1 hu1
  have hb : Below w5.heap.size w5 u1 := by rw [hu1.out]; exact below_row ((Below.refl _ _).alloc (Nat.le_refl _) _) (Nat.le_refl _) _
  have hy : u1.heap[w5.heap.size]? = some (.cells Y 39 (0, 0)) := by rw [hu1.out]; exact setRow_at (heap_new _ _)
  clear hu1
  obtain ⟨w6, hww⟩ : ∃ w', w' = u1 := ⟨_, rfl⟩
  rw [← hww] at hb hy ⊢
  clear hww
  obtain ⟨BY, hBY⟩ : ∃ B, B = w5.heap.size := ⟨_, rfl⟩
  rw [← hBY] at hy ⊢
  have gY : w.heap.size ≤ BY := by omega
  clear hBY
  have Hyn := Lib.hid hy
  clear hy
  have HP6 := Lib.hid ((hb.block _ lP5).trans HP5.out)
  have lP6 := lt_row HP6.out
  have HO6 := Lib.hid ((hb.block _ lO5).trans HO5.out)
  have lO6 := lt_row HO6.out
  have HX6 := Lib.hid ((hb.block _ lX5).trans HX5.out)
  have lX6 := lt_row HX6.out
  have HBL6 := Lib.hid (HBL5.out.trans (hb.mono HBL5.out.size))
  have z6 := HBL6.out.size
  clear hb z5 lP5 lO5 lX5
  have HY6 := Lib.hid Hyn.out
  have lY6 := lt_row HY6.out
  clear Hyn
  go_wp2_with (first | (refine wpList_load_row rfl _ _ rfl BY rfl _ Y (0, 0) _ HY6.out Tryz.underlying39 rfl HYS.out ?_) | fail)
  refine (B2.out w6 (HV.out.below HBL6.out)).mono ?_
  rintro e w7 ⟨rfl, hb⟩
  have HP7 := Lib.hid ((hb.block _ lP6).trans HP6.out)
  have lP7 := lt_row HP7.out
  have HO7 := Lib.hid ((hb.block _ lO6).trans HO6.out)
  have lO7 := lt_row HO7.out
  have HX7 := Lib.hid ((hb.block _ lX6).trans HX6.out)
  have lX7 := lt_row HX7.out
  have HY7 := Lib.hid ((hb.block _ lY6).trans HY6.out)
  have lY7 := lt_row HY7.out
  have HBL7 := Lib.hid (HBL6.out.trans (hb.mono HBL6.out.size))
  have z7 := HBL7.out.size
  clear hb z6 lP6 lO6 lX6 lY6
  have hGE := HGE.out
  rcases Hf1.out with ⟨rfl, rfl, hqX⟩ | ⟨h1, g1⟩ <;> rcases Hf3.out with ⟨rfl, rfl, hqs⟩ | ⟨h3, g3⟩ <;>
    ((try unfold EqR at hqX)
     go_wp2_with (first | (refine WireT.wpList_load_rowG (by rfl) _ _ rfl BX rfl _ X (0, 0) _ HX7.out Tryz.underlying39 rfl HXS.out ?_) | (refine WireT.wpList_load_rowG (by rfl) _ _ rfl w.heap.size rfl _ p (0, 0) _ HP7.out Tryz.underlying39 rfl HpS.out ?_) | (refine wpList_load_row rfl _ _ rfl w.heap.size rfl _ p (0, 0) _ HP7.out Tryz.underlying39 rfl HpS.out ?_) | fail)
     clear hGE
     (try clear hqX)
     (try clear hqs)
     refine (C1.out w7 (HV.out.below HBL7.out)).mono ?_
     rintro e w8 ⟨rfl, hb⟩
     have HP8 := Lib.hid ((hb.block _ lP7).trans HP7.out)
     have lP8 := lt_row HP8.out
     have HO8 := Lib.hid ((hb.block _ lO7).trans HO7.out)
     have lO8 := lt_row HO8.out
     have HX8 := Lib.hid ((hb.block _ lX7).trans HX7.out)
     have lX8 := lt_row HX8.out
     have HY8 := Lib.hid ((hb.block _ lY7).trans HY7.out)
     have lY8 := lt_row HY8.out
     have HBL8 := Lib.hid (HBL7.out.trans (hb.mono HBL7.out.size))
     have z8 := HBL8.out.size
     clear hb z7 lP7 lO7 lX7 lY7
     go_wp2_with (first | (refine wpList_store_rowA rfl _ _ _ rfl w8.heap.size A rfl rfl _ _ (heap_new _ _) HAS.out (by rw [← HAN.out]; rfl) HAO.out ?_) | fail)
     intro u1 hu1
     have hb : Below w8.heap.size w8 u1 := by rw [hu1.out]; exact below_row ((Below.refl _ _).alloc (Nat.le_refl _) _) (Nat.le_refl _) _
     have hy : u1.heap[w8.heap.size]? = some (.cells A 39 (0, 0)) := by rw [hu1.out]; exact setRow_at (heap_new _ _)
     clear hu1
     obtain ⟨w9, hww⟩ : ∃ w', w' = u1 := ⟨_, rfl⟩
     rw [← hww] at hb hy ⊢
     clear hww
     obtain ⟨BG, hBG⟩ : ∃ B, B = w8.heap.size := ⟨_, rfl⟩
     rw [← hBG] at hy ⊢
     have gG : w.heap.size ≤ BG := by omega
     clear hBG
     have Hyn := Lib.hid hy
     clear hy
     have HP9 := Lib.hid ((hb.block _ lP8).trans HP8.out)
     have lP9 := lt_row HP9.out
     have HO9 := Lib.hid ((hb.block _ lO8).trans HO8.out)
     have lO9 := lt_row HO9.out
     have HX9 := Lib.hid ((hb.block _ lX8).trans HX8.out)
     have lX9 := lt_row HX9.out
     have HY9 := Lib.hid ((hb.block _ lY8).trans HY8.out)
     have lY9 := lt_row HY9.out
     have HBL9 := Lib.hid (HBL8.out.trans (hb.mono HBL8.out.size))
     have z9 := HBL9.out.size
     clear hb z8 lP8 lO8 lX8 lY8
     have HG9 := Lib.hid Hyn.out
     have lG9 := lt_row HG9.out
     clear Hyn
     rcases C4.out with ⟨h5, g5, rfl⟩ | ⟨rfl, c5, hqE, hwf⟩
     · skip
       go_wp2_with (first | (refine wpList_load_row rfl _ _ rfl w.heap.size rfl _ p (0, 0) _ HP9.out Tryz.underlying39 rfl HpS.out ?_) | (refine wpList_load_row rfl _ _ rfl (w.heap.size + 1) rfl _ q (0, 0) _ HO9.out Tryz.underlying39 rfl HqS.out ?_) | fail)
       refine (C2.out w9 (HV.out.below HBL9.out)).mono ?_
       rintro e w10 ⟨rfl, hb⟩
       have HP10 := Lib.hid ((hb.block _ lP9).trans HP9.out)
       have lP10 := lt_row HP10.out
       have HO10 := Lib.hid ((hb.block _ lO9).trans HO9.out)
       have lO10 := lt_row HO10.out
       have HX10 := Lib.hid ((hb.block _ lX9).trans HX9.out)
       have lX10 := lt_row HX10.out
       have HY10 := Lib.hid ((hb.block _ lY9).trans HY9.out)
       have lY10 := lt_row HY10.out
       have HG10 := Lib.hid ((hb.block _ lG9).trans HG9.out)
       have lG10 := lt_row HG10.out
       have HBL10 := Lib.hid (HBL9.out.trans (hb.mono HBL9.out.size))
       have z10 := HBL10.out.size
       clear hb z9 lP9 lO9 lX9 lY9 lG9
       go_wp2
       go_ret
       exact ⟨rfl, HBL10.out⟩
     · skip
       have C5 := Lib.hid c5
       have HqE := Lib.hid hqE
       clear c5 hqE
       go_wp2_with (first | (refine wpList_load_row rfl _ _ rfl (w.heap.size + 1) rfl _ q (0, 0) _ HO9.out Tryz.underlying39 rfl HqS.out ?_) | (refine wpList_store_rowA rfl _ _ _ rfl w9.heap.size q rfl rfl _ _ (heap_new _ _) HqS.out (by rw [← HqN.out]; rfl) HqO.out ?_) | fail)
       intro u1 hu1
       have hb : Below w9.heap.size w9 u1 := by rw [hu1.out]; exact below_row ((Below.refl _ _).alloc (Nat.le_refl _) _) (Nat.le_refl _) _
       have hy : u1.heap[w9.heap.size]? = some (.cells q 39 (0, 0)) := by rw [hu1.out]; exact setRow_at (heap_new _ _)
       clear hu1
       obtain ⟨w10, hww⟩ : ∃ w', w' = u1 := ⟨_, rfl⟩
       rw [← hww] at hb hy ⊢
       clear hww
       obtain ⟨BN, hBN⟩ : ∃ B, B = w9.heap.size := ⟨_, rfl⟩
       rw [← hBN] at hy ⊢
       have gN : w.heap.size ≤ BN := by omega
       have hON : w.heap.size + 1 < BN := by have := lO9; omega
       have hGN : BG < BN := by have := lG9; omega
       clear hBN
       have Hyn := Lib.hid hy
       clear hy
       have HP10 := Lib.hid ((hb.block _ lP9).trans HP9.out)
       have lP10 := lt_row HP10.out
       have HO10 := Lib.hid ((hb.block _ lO9).trans HO9.out)
       have lO10 := lt_row HO10.out
       have HX10 := Lib.hid ((hb.block _ lX9).trans HX9.out)
       have lX10 := lt_row HX10.out
       have HY10 := Lib.hid ((hb.block _ lY9).trans HY9.out)
       have lY10 := lt_row HY10.out
       have HG10 := Lib.hid ((hb.block _ lG9).trans HG9.out)
       have lG10 := lt_row HG10.out
       have HBL10 := Lib.hid (HBL9.out.trans (hb.mono HBL9.out.size))
       have z10 := HBL10.out.size
       clear hb z9 lP9 lO9 lX9 lY9 lG9
       have HN10 := Lib.hid Hyn.out
       have lN10 := lt_row HN10.out
       clear Hyn
       have c6 : w10.cell? ⟨BN, 6, none⟩ = some (.string sg') := by rw [cell_row HN10.out]; exact HQ6.out
       have f6 : w10.frozen? ⟨BN, 6, none⟩ = false := frozen_row HN10.out
       have jN := (show (w10.setCell ⟨BN, 6, none⟩ (.string ⟨#[]⟩)).heap[BN]? = some (.cells E 39 (0, 0)) by rw [← HE.out]; exact heap_setCell_same HN10.out _)
       have jP := (show (w10.setCell ⟨BN, 6, none⟩ (.string ⟨#[]⟩)).heap[w.heap.size]? = some (.cells p 39 (0, 0)) from (heap_setCell_far _ (by omega)).trans HP10.out)
       have jO := (show (w10.setCell ⟨BN, 6, none⟩ (.string ⟨#[]⟩)).heap[w.heap.size + 1]? = some (.cells q 39 (0, 0)) from (heap_setCell_far _ (by omega)).trans HO10.out)
       have jG := (show (w10.setCell ⟨BN, 6, none⟩ (.string ⟨#[]⟩)).heap[BG]? = some (.cells A 39 (0, 0)) from (heap_setCell_far _ (by omega)).trans HG10.out)
       have jB := (show Below w.heap.size w (w10.setCell ⟨BN, 6, none⟩ (.string ⟨#[]⟩)) from HBL10.out.setCell (p := ⟨BN, 6, none⟩) (by show w.heap.size ≤ BN; omega) _)
       have jV := HV.out.below jB
       have JN := Lib.hid jN
       have JP := Lib.hid jP
       have JO := Lib.hid jO
       have JG := Lib.hid jG
       have JB := Lib.hid jB
       have JV := Lib.hid jV
       clear jN jP jO jG jB jV
       go_wp2_with fail
       clear c6 f6
       generalize (w10.setCell ⟨BN, 6, none⟩ (.string ⟨#[]⟩)) = wx at JN JP JO JG JB JV ⊢
       have hGE := HGE.out
       have hqE := HqE.out
       rcases hwf with ⟨rfl, rfl⟩ | ⟨h6, rfl⟩
       · skip
         refine Uniform.region_chain (S := (fun W => W.heap[w.heap.size]? = some (.cells p 39 (0, 0)) ∧ W.heap[w.heap.size + 1]? = some (.cells q 39 (0, 0)) ∧ W.heap[BG]? = some (.cells A 39 (0, 0)) ∧ W.heap[BN]? = some (.cells E 39 (0, 0)) ∧ VarsD W ∧ Below w.heap.size w W)) (List.range 18) (by kernel_rfl) (by kernel_rfl) ⟨JP.out, JO.out, JG.out, JN.out, (JV.out).below (Bl.drew (Below.refl _ _)), (JB.out).drew⟩ ?_
         refine ⟨_, _, rfl, Or.inl ⟨by rfl, fun wq hSw => Uniform.UStep.value (w' := wq) (EqHash.exec_load_row 39 _ rfl _ rfl hSw.1 Tryz.underlying39 rfl HpS.out) hSw⟩, ?_⟩
         simp only [Act.put, List.getElem_toArray, List.getElem_cons_zero, List.getElem_cons_succ, List.setIfInBounds_toArray, List.set_cons_zero, List.set_cons_succ]
         refine ⟨_, _, rfl, Or.inl ⟨by rfl, fun wq hSw => Uniform.UStep.value (w' := wq) (EqHash.exec_load_row 39 _ rfl _ rfl hSw.2.2.1 Tryz.underlying39 rfl HAS.out) hSw⟩, ?_⟩
         simp only [Act.put, List.getElem_toArray, List.getElem_cons_zero, List.getElem_cons_succ, List.setIfInBounds_toArray, List.set_cons_zero, List.set_cons_succ]
         refine ⟨_, ?_, rfl, Or.inl ⟨by rfl, fun wq hSw => Uniform.UStep.call (w' := wq) ?_ ((C5.out wq hSw.2.2.2.2.1).mono ?_)⟩, ?_⟩
         rotate_left
         · obtain ⟨q0, q1, q2, q3, q4, q5⟩ := hSw
           go_simp
           first | done | rfl | exact ⟨⟨rfl, rfl⟩, rfl⟩ | exact ⟨rfl, rfl⟩
         · have hSk := hSw
           obtain ⟨q0, q1, q2, q3, q4, q5⟩ := hSw
           rintro e wq2 ⟨rfl, hbq⟩
           refine ⟨?_, (hbq.block _ (lt_row q0)).trans q0, (hbq.block _ (lt_row q1)).trans q1, (hbq.block _ (lt_row q2)).trans q2, (hbq.block _ (lt_row q3)).trans q3, q4.below hbq, q5.trans (hbq.mono q5.size)⟩
           rfl
         simp only [Act.put, List.getElem_toArray, List.getElem_cons_zero, List.getElem_cons_succ, List.setIfInBounds_toArray, List.set_cons_zero, List.set_cons_succ]
         refine ⟨_, ?_, rfl, Or.inl ⟨by rfl, fun wq hSw => Uniform.UStep.value (w' := wq) ?_ hSw⟩, ?_⟩
         rotate_left
         · obtain ⟨q0, q1, q2, q3, q4, q5⟩ := hSw
           go_simp
           rfl
         simp only [Act.put, List.getElem_toArray, List.getElem_cons_zero, List.getElem_cons_succ, List.setIfInBounds_toArray, List.set_cons_zero, List.set_cons_succ]
         refine ⟨_, _, rfl, Or.inl ⟨by rfl, fun wq hSw => Uniform.UStep.value (w' := wq) (EqHash.exec_load_row 39 _ rfl _ rfl hSw.1 Tryz.underlying39 rfl HpS.out) hSw⟩, ?_⟩
         simp only [Act.put, List.getElem_toArray, List.getElem_cons_zero, List.getElem_cons_succ, List.setIfInBounds_toArray, List.set_cons_zero, List.set_cons_succ]
         refine ⟨_, _, rfl, Or.inl ⟨by rfl, fun wq hSw => Uniform.UStep.value (w' := wq) (EqHash.exec_load_row 39 _ rfl _ rfl hSw.2.1 Tryz.underlying39 rfl HqS.out) hSw⟩, ?_⟩
         simp only [Act.put, List.getElem_toArray, List.getElem_cons_zero, List.getElem_cons_succ, List.setIfInBounds_toArray, List.set_cons_zero, List.set_cons_succ]
         refine ⟨_, ?_, rfl, Or.inl ⟨by rfl, fun wq hSw => Uniform.UStep.call (w' := wq) ?_ ((C2.out wq hSw.2.2.2.2.1).mono ?_)⟩, ?_⟩
         rotate_left
         · obtain ⟨q0, q1, q2, q3, q4, q5⟩ := hSw
           go_simp
           first | done | rfl | exact ⟨⟨rfl, rfl⟩, rfl⟩ | exact ⟨rfl, rfl⟩
         · have hSk := hSw
           obtain ⟨q0, q1, q2, q3, q4, q5⟩ := hSw
           rintro e wq2 ⟨rfl, hbq⟩
           refine ⟨?_, (hbq.block _ (lt_row q0)).trans q0, (hbq.block _ (lt_row q1)).trans q1, (hbq.block _ (lt_row q2)).trans q2, (hbq.block _ (lt_row q3)).trans q3, q4.below hbq, q5.trans (hbq.mono q5.size)⟩
           rfl
         simp only [Act.put, List.getElem_toArray, List.getElem_cons_zero, List.getElem_cons_succ, List.setIfInBounds_toArray, List.set_cons_zero, List.set_cons_succ]
         refine ⟨_, _, rfl, Or.inl ⟨by rfl, fun wq hSw => Uniform.UStep.value (w' := wq) (EqHash.exec_load_row 39 _ rfl _ rfl hSw.2.1 Tryz.underlying39 rfl HqS.out) hSw⟩, ?_⟩
         simp only [Act.put, List.getElem_toArray, List.getElem_cons_zero, List.getElem_cons_succ, List.setIfInBounds_toArray, List.set_cons_zero, List.set_cons_succ]
         refine ⟨_, ?_, rfl, Or.inl ⟨by rfl, fun wq hSw => Uniform.UStep.call (w' := wq) ?_ ((C3.out wq hSw.2.2.2.2.1).mono ?_)⟩, ?_⟩
         rotate_left
         · obtain ⟨q0, q1, q2, q3, q4, q5⟩ := hSw
           go_simp
           first | done | rfl | exact ⟨⟨rfl, rfl⟩, rfl⟩ | exact ⟨rfl, rfl⟩
         · have hSk := hSw
           obtain ⟨q0, q1, q2, q3, q4, q5⟩ := hSw
           rintro e wq2 ⟨rfl, hbq⟩
           refine ⟨?_, (hbq.block _ (lt_row q0)).trans q0, (hbq.block _ (lt_row q1)).trans q1, (hbq.block _ (lt_row q2)).trans q2, (hbq.block _ (lt_row q3)).trans q3, q4.below hbq, q5.trans (hbq.mono q5.size)⟩
           rfl
         simp only [Act.put, List.getElem_toArray, List.getElem_cons_zero, List.getElem_cons_succ, List.setIfInBounds_toArray, List.set_cons_zero, List.set_cons_succ]
         refine ⟨_, ?_, rfl, Or.inl ⟨by rfl, fun wq hSw => Uniform.UStep.value (w' := wq) ?_ hSw⟩, ?_⟩
         rotate_left
         · obtain ⟨q0, q1, q2, q3, q4, q5⟩ := hSw
           go_simp
           rfl
         simp only [Act.put, List.getElem_toArray, List.getElem_cons_zero, List.getElem_cons_succ, List.setIfInBounds_toArray, List.set_cons_zero, List.set_cons_succ]
         refine ⟨_, ?_, rfl, Or.inl ⟨by rfl, fun wq hSw => Uniform.UStep.value (w' := wq) ?_ hSw⟩, ?_⟩
         rotate_left
         · obtain ⟨q0, q1, q2, q3, q4, q5⟩ := hSw
           go_simp
           rfl
         simp only [Act.put, List.getElem_toArray, List.getElem_cons_zero, List.getElem_cons_succ, List.setIfInBounds_toArray, List.set_cons_zero, List.set_cons_succ]
         refine ⟨_, _, rfl, Or.inl ⟨by rfl, fun wq hSw => Uniform.UStep.value (w' := wq) (EqHash.exec_load_row 39 _ rfl _ rfl hSw.2.2.2.1 Tryz.underlying39 rfl HES.out) hSw⟩, ?_⟩
         simp only [Act.put, List.getElem_toArray, List.getElem_cons_zero, List.getElem_cons_succ, List.setIfInBounds_toArray, List.set_cons_zero, List.set_cons_succ]
         refine ⟨_, _, rfl, Or.inl ⟨by rfl, fun wq hSw => Uniform.UStep.value (w' := wq) (EqHash.exec_load_row 39 _ rfl _ rfl hSw.2.2.1 Tryz.underlying39 rfl HAS.out) hSw⟩, ?_⟩
         simp only [Act.put, List.getElem_toArray, List.getElem_cons_zero, List.getElem_cons_succ, List.setIfInBounds_toArray, List.set_cons_zero, List.set_cons_succ]
         refine ⟨_, ?_, rfl, Or.inl ⟨by rfl, fun wq hSw => Uniform.UStep.value (w' := wq) ?_ hSw⟩, ?_⟩
         rotate_left
         · obtain ⟨q0, q1, q2, q3, q4, q5⟩ := hSw
           go_simp
           rfl
         simp only [Act.put, List.getElem_toArray, List.getElem_cons_zero, List.getElem_cons_succ, List.setIfInBounds_toArray, List.set_cons_zero, List.set_cons_succ]
         refine ⟨_, ?_, rfl, Or.inl ⟨by rfl, fun wq hSw => Uniform.UStep.value (w' := wq) ?_ hSw⟩, ?_⟩
         rotate_left
         · obtain ⟨q0, q1, q2, q3, q4, q5⟩ := hSw
           go_simp
           rfl
         simp only [Act.put, List.getElem_toArray, List.getElem_cons_zero, List.getElem_cons_succ, List.setIfInBounds_toArray, List.set_cons_zero, List.set_cons_succ]
         refine ⟨_, ?_, rfl, Or.inl ⟨by rfl, fun wq hSw => Uniform.UStep.value (w' := wq) ?_ hSw⟩, ?_⟩
         rotate_left
         · obtain ⟨q0, q1, q2, q3, q4, q5⟩ := hSw
           go_simp
           rfl
         simp only [Act.put, List.getElem_toArray, List.getElem_cons_zero, List.getElem_cons_succ, List.setIfInBounds_toArray, List.set_cons_zero, List.set_cons_succ]
         refine ⟨_, ?_, rfl, Or.inl ⟨by rfl, fun wq hSw => Uniform.UStep.value (w' := wq) ?_ hSw⟩, ?_⟩
         rotate_left
         · obtain ⟨q0, q1, q2, q3, q4, q5⟩ := hSw
           go_simp
           rfl
         simp only [Act.put, List.getElem_toArray, List.getElem_cons_zero, List.getElem_cons_succ, List.setIfInBounds_toArray, List.set_cons_zero, List.set_cons_succ]
         refine ⟨_, ?_, rfl, Or.inl ⟨by rfl, fun wq hSw => Uniform.UStep.value (w' := wq) ?_ hSw⟩, ?_⟩
         rotate_left
         · obtain ⟨q0, q1, q2, q3, q4, q5⟩ := hSw
           go_simp
           rfl
         simp only [Act.put, List.getElem_toArray, List.getElem_cons_zero, List.getElem_cons_succ, List.setIfInBounds_toArray, List.set_cons_zero, List.set_cons_succ]
         intro wz hSz
         obtain ⟨_, _, _, _, _, q5⟩ := hSz
         go_wp2
         go_ret
         exact ⟨rfl, q5⟩
       · skip
         refine Uniform.region_chain (S := (fun W => W.heap[w.heap.size]? = some (.cells p 39 (0, 0)) ∧ W.heap[w.heap.size + 1]? = some (.cells q 39 (0, 0)) ∧ W.heap[BG]? = some (.cells A 39 (0, 0)) ∧ W.heap[BN]? = some (.cells E 39 (0, 0)) ∧ VarsD W ∧ Below w.heap.size w W)) (List.range 18) (by kernel_rfl) (by kernel_rfl) ⟨JP.out, JO.out, JG.out, JN.out, (JV.out).below (Bl.drew (Below.refl _ _)), (JB.out).drew⟩ ?_
         refine ⟨_, _, rfl, Or.inl ⟨by rfl, fun wq hSw => Uniform.UStep.value (w' := wq) (EqHash.exec_load_row 39 _ rfl _ rfl hSw.1 Tryz.underlying39 rfl HpS.out) hSw⟩, ?_⟩
         simp only [Act.put, List.getElem_toArray, List.getElem_cons_zero, List.getElem_cons_succ, List.setIfInBounds_toArray, List.set_cons_zero, List.set_cons_succ]
         refine ⟨_, _, rfl, Or.inl ⟨by rfl, fun wq hSw => Uniform.UStep.value (w' := wq) (EqHash.exec_load_row 39 _ rfl _ rfl hSw.2.2.1 Tryz.underlying39 rfl HAS.out) hSw⟩, ?_⟩
         simp only [Act.put, List.getElem_toArray, List.getElem_cons_zero, List.getElem_cons_succ, List.setIfInBounds_toArray, List.set_cons_zero, List.set_cons_succ]
         refine ⟨_, ?_, rfl, Or.inl ⟨by rfl, fun wq hSw => Uniform.UStep.call (w' := wq) ?_ ((C5.out wq hSw.2.2.2.2.1).mono ?_)⟩, ?_⟩
         rotate_left
         · obtain ⟨q0, q1, q2, q3, q4, q5⟩ := hSw
           go_simp
           first | done | rfl | exact ⟨⟨rfl, rfl⟩, rfl⟩ | exact ⟨rfl, rfl⟩
         · have hSk := hSw
           obtain ⟨q0, q1, q2, q3, q4, q5⟩ := hSw
           rintro e wq2 ⟨rfl, hbq⟩
           refine ⟨?_, (hbq.block _ (lt_row q0)).trans q0, (hbq.block _ (lt_row q1)).trans q1, (hbq.block _ (lt_row q2)).trans q2, (hbq.block _ (lt_row q3)).trans q3, q4.below hbq, q5.trans (hbq.mono q5.size)⟩
           rfl
         simp only [Act.put, List.getElem_toArray, List.getElem_cons_zero, List.getElem_cons_succ, List.setIfInBounds_toArray, List.set_cons_zero, List.set_cons_succ]
         refine ⟨_, ?_, rfl, Or.inl ⟨by rfl, fun wq hSw => Uniform.UStep.value (w' := wq) ?_ hSw⟩, ?_⟩
         rotate_left
         · obtain ⟨q0, q1, q2, q3, q4, q5⟩ := hSw
           go_simp
           rfl
         simp only [Act.put, List.getElem_toArray, List.getElem_cons_zero, List.getElem_cons_succ, List.setIfInBounds_toArray, List.set_cons_zero, List.set_cons_succ]
         refine ⟨_, _, rfl, Or.inl ⟨by rfl, fun wq hSw => Uniform.UStep.value (w' := wq) (EqHash.exec_load_row 39 _ rfl _ rfl hSw.1 Tryz.underlying39 rfl HpS.out) hSw⟩, ?_⟩
         simp only [Act.put, List.getElem_toArray, List.getElem_cons_zero, List.getElem_cons_succ, List.setIfInBounds_toArray, List.set_cons_zero, List.set_cons_succ]
         refine ⟨_, _, rfl, Or.inl ⟨by rfl, fun wq hSw => Uniform.UStep.value (w' := wq) (EqHash.exec_load_row 39 _ rfl _ rfl hSw.2.1 Tryz.underlying39 rfl HqS.out) hSw⟩, ?_⟩
         simp only [Act.put, List.getElem_toArray, List.getElem_cons_zero, List.getElem_cons_succ, List.setIfInBounds_toArray, List.set_cons_zero, List.set_cons_succ]
         refine ⟨_, ?_, rfl, Or.inl ⟨by rfl, fun wq hSw => Uniform.UStep.call (w' := wq) ?_ ((C2.out wq hSw.2.2.2.2.1).mono ?_)⟩, ?_⟩
         rotate_left
         · obtain ⟨q0, q1, q2, q3, q4, q5⟩ := hSw
           go_simp
           first | done | rfl | exact ⟨⟨rfl, rfl⟩, rfl⟩ | exact ⟨rfl, rfl⟩
         · have hSk := hSw
           obtain ⟨q0, q1, q2, q3, q4, q5⟩ := hSw
           rintro e wq2 ⟨rfl, hbq⟩
           refine ⟨?_, (hbq.block _ (lt_row q0)).trans q0, (hbq.block _ (lt_row q1)).trans q1, (hbq.block _ (lt_row q2)).trans q2, (hbq.block _ (lt_row q3)).trans q3, q4.below hbq, q5.trans (hbq.mono q5.size)⟩
           rfl
         simp only [Act.put, List.getElem_toArray, List.getElem_cons_zero, List.getElem_cons_succ, List.setIfInBounds_toArray, List.set_cons_zero, List.set_cons_succ]
         refine ⟨_, _, rfl, Or.inl ⟨by rfl, fun wq hSw => Uniform.UStep.value (w' := wq) (EqHash.exec_load_row 39 _ rfl _ rfl hSw.2.1 Tryz.underlying39 rfl HqS.out) hSw⟩, ?_⟩
         simp only [Act.put, List.getElem_toArray, List.getElem_cons_zero, List.getElem_cons_succ, List.setIfInBounds_toArray, List.set_cons_zero, List.set_cons_succ]
         refine ⟨_, ?_, rfl, Or.inl ⟨by rfl, fun wq hSw => Uniform.UStep.call (w' := wq) ?_ ((C3.out wq hSw.2.2.2.2.1).mono ?_)⟩, ?_⟩
         rotate_left
         · obtain ⟨q0, q1, q2, q3, q4, q5⟩ := hSw
           go_simp
           first | done | rfl | exact ⟨⟨rfl, rfl⟩, rfl⟩ | exact ⟨rfl, rfl⟩
         · have hSk := hSw
           obtain ⟨q0, q1, q2, q3, q4, q5⟩ := hSw
           rintro e wq2 ⟨rfl, hbq⟩
           refine ⟨?_, (hbq.block _ (lt_row q0)).trans q0, (hbq.block _ (lt_row q1)).trans q1, (hbq.block _ (lt_row q2)).trans q2, (hbq.block _ (lt_row q3)).trans q3, q4.below hbq, q5.trans (hbq.mono q5.size)⟩
           rfl
         simp only [Act.put, List.getElem_toArray, List.getElem_cons_zero, List.getElem_cons_succ, List.setIfInBounds_toArray, List.set_cons_zero, List.set_cons_succ]
         refine ⟨_, ?_, rfl, Or.inl ⟨by rfl, fun wq hSw => Uniform.UStep.value (w' := wq) ?_ hSw⟩, ?_⟩
         rotate_left
         · obtain ⟨q0, q1, q2, q3, q4, q5⟩ := hSw
           go_simp
           rfl
         simp only [Act.put, List.getElem_toArray, List.getElem_cons_zero, List.getElem_cons_succ, List.setIfInBounds_toArray, List.set_cons_zero, List.set_cons_succ]
         refine ⟨_, ?_, rfl, Or.inl ⟨by rfl, fun wq hSw => Uniform.UStep.value (w' := wq) ?_ hSw⟩, ?_⟩
         rotate_left
         · obtain ⟨q0, q1, q2, q3, q4, q5⟩ := hSw
           go_simp
           rfl
         simp only [Act.put, List.getElem_toArray, List.getElem_cons_zero, List.getElem_cons_succ, List.setIfInBounds_toArray, List.set_cons_zero, List.set_cons_succ]
         refine ⟨_, undef, rfl, Or.inr ⟨by rfl, rfl⟩, ?_⟩
         simp only [Act.put, List.getElem_toArray, List.getElem_cons_zero, List.getElem_cons_succ, List.setIfInBounds_toArray, List.set_cons_zero, List.set_cons_succ]
         refine ⟨_, undef, rfl, Or.inr ⟨by rfl, rfl⟩, ?_⟩
         simp only [Act.put, List.getElem_toArray, List.getElem_cons_zero, List.getElem_cons_succ, List.setIfInBounds_toArray, List.set_cons_zero, List.set_cons_succ]
         refine ⟨_, undef, rfl, Or.inr ⟨by rfl, rfl⟩, ?_⟩
         simp only [Act.put, List.getElem_toArray, List.getElem_cons_zero, List.getElem_cons_succ, List.setIfInBounds_toArray, List.set_cons_zero, List.set_cons_succ]
         refine ⟨_, ?_, rfl, Or.inl ⟨by rfl, fun wq hSw => Uniform.UStep.value (w' := wq) ?_ hSw⟩, ?_⟩
         rotate_left
         · obtain ⟨q0, q1, q2, q3, q4, q5⟩ := hSw
           go_simp
           rfl
         simp only [Act.put, List.getElem_toArray, List.getElem_cons_zero, List.getElem_cons_succ, List.setIfInBounds_toArray, List.set_cons_zero, List.set_cons_succ]
         refine ⟨_, ?_, rfl, Or.inl ⟨by rfl, fun wq hSw => Uniform.UStep.value (w' := wq) ?_ hSw⟩, ?_⟩
         rotate_left
         · obtain ⟨q0, q1, q2, q3, q4, q5⟩ := hSw
           go_simp
           rfl
         simp only [Act.put, List.getElem_toArray, List.getElem_cons_zero, List.getElem_cons_succ, List.setIfInBounds_toArray, List.set_cons_zero, List.set_cons_succ]
         refine ⟨_, ?_, rfl, Or.inl ⟨by rfl, fun wq hSw => Uniform.UStep.value (w' := wq) ?_ hSw⟩, ?_⟩
         rotate_left
         · obtain ⟨q0, q1, q2, q3, q4, q5⟩ := hSw
           go_simp
           rfl
         simp only [Act.put, List.getElem_toArray, List.getElem_cons_zero, List.getElem_cons_succ, List.setIfInBounds_toArray, List.set_cons_zero, List.set_cons_succ]
         refine ⟨_, ?_, rfl, Or.inl ⟨by rfl, fun wq hSw => Uniform.UStep.value (w' := wq) ?_ hSw⟩, ?_⟩
         rotate_left
         · obtain ⟨q0, q1, q2, q3, q4, q5⟩ := hSw
           go_simp
           rfl
         simp only [Act.put, List.getElem_toArray, List.getElem_cons_zero, List.getElem_cons_succ, List.setIfInBounds_toArray, List.set_cons_zero, List.set_cons_succ]
         intro wz hSz
         obtain ⟨_, _, _, _, _, q5⟩ := hSz
         go_wp2
         go_ret
         exact ⟨rfl, q5⟩)

end Go.Proofs.YtdmonfimdinkeaaGreatDoor.DlM
