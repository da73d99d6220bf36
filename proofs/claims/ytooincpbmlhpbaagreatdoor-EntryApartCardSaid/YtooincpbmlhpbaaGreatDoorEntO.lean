/-
  WHAT IS PROVED: the statement's function that tells entries apart by their sums answers true. Condition: the variables hold what 'VarsI' and 'VarsH' say, and the strings are not longer than the theorem says.
-/
import Derived.Test.YtooincpbmlhpbaaGreatDoorEntM
import Derived.Test.YtooincpbmlhpbaaGreatDoorEntZ
namespace Go.Proofs.YtooincpbmlhpbaaGreatDoor.EntO
open Go Go.RowKit Go.Shelf Go.Proofs.YtooincpbmlhpbaaGreatDoor Go.Proofs.YtooincpbmlhpbaaGreatDoor.OctetS Go.Proofs.YtooincpbmlhpbaaGreatDoor.IdentS Go.Proofs.YtooincpbmlhpbaaGreatDoor.EntS Go.Proofs.YtooincpbmlhpbaaGreatDoor.OctG Go.Proofs.YtooincpbmlhpbaaGreatDoor.IdentP Go.Proofs.YtooincpbmlhpbaaGreatDoor.EntP Go.Proofs.YtooincpbmlhpbaaGreatDoor.EventC Go.Proofs.YtooincpbmlhpbaaGreatDoor.ShaA Go.Proofs.YtooincpbmlhpbaaGreatDoor.Steps Go.Proofs.YtooincpbmlhpbaaGreatDoor.KeyA Go.Proofs.YtooincpbmlhpbaaGreatDoor.EntB Go.Proofs.YtooincpbmlhpbaaGreatDoor.EntQ Go.Proofs.YtooincpbmlhpbaaGreatDoor.EntM Go.Proofs.YtooincpbmlhpbaaGreatDoor.TreeA
set_option linter.unusedVariables false
set_option linter.unusedSimpArgs false
attribute [-go_sem] run_equalIn_agg

theorem hash_eq (x y : H32) (w : World) : (Op.equalIn 10000 23 (.agg x.A) (.agg y.A)).run Tryz.prog w = .ok (EqHash.hEq x.l y.l) w := by
  have h : ∀ x : H32, x.A = ShaB.pB 32 x.l := fun x => by
    unfold H32.A
    exact EqEnt.pB_of x.len
  rw [h x, h y, EqHash.eqHash]
/-- What is left to be shown, of two entries that are right, and have one sum. -/
theorem apart_plain (p q : Array Value) (r : ByteArray) (ep ix : Int) (pv : List UInt8) (e sg : ByteArray) (r' : ByteArray) (ep' ix' : Int) (pv' : List UInt8) (e' sg' : ByteArray) (hp : EntP p r ep ix pv e sg) (hq : EntP q r' ep' ix' pv' e' sg') (h1 : checkB (entOf r ep ix pv e sg) = true) (h2 : checkB (entOf r' ep' ix' pv' e' sg') = true)
    (hs : EqHash.hEq (EntX.sumE (entOf r ep ix pv e sg)).l (EntX.sumE (entOf r' ep' ix' pv' e' sg')).l = true) :
    ∃ (b : Bool), (∀ w, (Op.equalIn 10000 25 (.agg (entA r ep ix pv e ⟨#[]⟩)) (.agg (entA r' ep' ix' pv' e' ⟨#[]⟩))).run Tryz.prog w = .ok b w) ∧
      (b = true ∨ ((bsOf (EntS.text (entOf r ep ix pv e sg))).toList == (bsOf (EntS.text (entOf r' ep' ix' pv' e' sg'))).toList) = false) ∧ ShaS.sum (EntS.text (entOf r ep ix pv e sg)) = ShaS.sum (EntS.text (entOf r' ep' ix' pv' e' sg')) := by
  refine ⟨_, fun w => EqEnt.eqEnt r r' e e' ⟨#[]⟩ ⟨#[]⟩ ep ep' ix ix' pv pv' hp.len hq.len w, ?_, ?_⟩
  · by_cases ht : EntS.text (entOf r ep ix pv e sg) = EntS.text (entOf r' ep' ix' pv' e' sg')
    · refine .inl ?_
      have h := text_inj (check_iff.1 h1) (check_iff.1 h2) hp.len hq.len ht
      unfold entOf at h
      simp only [Ent.mk.injEq, and_true] at h
      obtain ⟨g1, g2, g3, g4, g5⟩ := h
      rw [bl_inj g1, g2, g3, g4, bl_inj g5, EqHash.hEq_self]
      simp
    · refine .inr (str_ne (fun h => ht ?_))
      have h3 := congrArg bl h
      rwa [bl_bsOf, bl_bsOf] at h3
  · have h := (EqHash.hEq_iff (EntX.sumE _).len (EntX.sumE _).len).1 hs
    unfold EntX.sumE at h
    rw [if_pos h1, if_pos h2] at h
    have hl : ∀ t, (EntX.sumH t).l = ShaS.sum t := fun t => by
      unfold EntX.sumH KeyJ.mk32
      rfl
    rwa [hl, hl] at h

set_option maxRecDepth 100000 in
set_option maxHeartbeats 4000000 in
theorem apart_ok (w : World) (hv : VarsI w) (hk : VarsH w) (p : Array Value) (r : ByteArray) (ep ix : Int) (pv : List UInt8) (e sg : ByteArray) (hp : EntP p r ep ix pv e sg) (q : Array Value) (r' : ByteArray) (ep' ix' : Int) (pv' : List UInt8) (e' sg' : ByteArray) (hq : EntP q r' ep' ix' pv' e' sg') (hr : r.size ≤ 140737488351232) (he : e.size ≤ maxLen) (hs : sg.size ≤ maxLen) (hr' : r'.size ≤ 140737488351232) (he' : e'.size ≤ maxLen) (hs' : sg'.size ≤ maxLen) :
    Calls Tryz.prog 5 #[.agg p, .agg q] w (RB (.bool true) w) := by
  obtain ⟨P2, hP2⟩ : ∃ E, E = entA r ep ix pv e ⟨#[]⟩ := ⟨_, rfl⟩
  obtain ⟨Q2, hQ2⟩ : ∃ E, E = entA r' ep' ix' pv' e' ⟨#[]⟩ := ⟨_, rfl⟩
  have hp2 : EntP P2 r ep ix pv e ⟨#[]⟩ := ⟨hP2, hp.len⟩
  have hq2 : EntP Q2 r' ep' ix' pv' e' ⟨#[]⟩ := ⟨hQ2, hq.len⟩
  have Hset := Lib.hid (show p.setIfInBounds 36 (.string ⟨#[]⟩) = P2 by rw [hp.eq, hP2, EntW.entA_set36 _ _ _ _ _ _ _ hp.len])
  have Hset' := Lib.hid (show q.setIfInBounds 36 (.string ⟨#[]⟩) = Q2 by rw [hq.eq, hQ2, EntW.entA_set36 _ _ _ _ _ _ _ hq.len])
  have H36 := Lib.hid hp.c36
  have H36' := Lib.hid hq.c36
  have s1 := fun w hv hk => EntX.Sum_ok w p r ep ix pv e sg hp hv hk hr he hs
  have s2 := fun w hv hk => EntX.Sum_ok w q r' ep' ix' pv' e' sg' hq hv hk hr' he' hs'
  have t1 := fun w => EntR.Text_ok w p r ep ix pv e sg hp hr he hs
  have t2 := fun w => EntR.Text_ok w q r' ep' ix' pv' e' sg' hq hr' he' hs'
  have hpl := apart_plain p q r ep ix pv e sg r' ep' ix' pv' e' sg' hp hq
  have hl1 := fun h => EntX.ent_len (check_iff.1 (show checkB (entOf r ep ix pv e sg) = true from h)) hp.len
  have hl2 := fun h => EntX.ent_len (check_iff.1 (show checkB (entOf r' ep' ix' pv' e' sg') = true from h)) hq.len
  have hqh := hash_eq (EntX.sumE (entOf r ep ix pv e sg)) (EntX.sumE (entOf r' ep' ix' pv' e' sg'))
  unfold EntS.textOf at t1 t2
  rw [← hP2, ← hQ2] at hpl
  obtain ⟨x, hx⟩ : ∃ x, x = entOf r ep ix pv e sg := ⟨_, rfl⟩
  obtain ⟨y, hy⟩ : ∃ y, y = entOf r' ep' ix' pv' e' sg' := ⟨_, rfl⟩
  rw [← hx] at s1 t1 hl1 hqh hpl
  rw [← hy] at s2 t2 hl2 hqh hpl
  obtain ⟨X1, hX1⟩ : ∃ X, X = EntX.sumE x := ⟨_, rfl⟩
  obtain ⟨X2, hX2⟩ : ∃ X, X = EntX.sumE y := ⟨_, rfl⟩
  rw [← hX1] at s1 hqh hpl
  rw [← hX2] at s2 hqh hpl
  obtain ⟨C, hC⟩ : ∃ C, C = X1.A := ⟨_, rfl⟩
  obtain ⟨D, hD⟩ : ∃ D, D = X2.A := ⟨_, rfl⟩
  have hCn : C.size = 32 := by rw [hC]; exact X1.size
  have hDn : D.size = 32 := by rw [hD]; exact X2.size
  have HCO := Lib.hid (show C.all (·.oneCell') = true by rw [hC]; exact X1.one)
  have HDO := Lib.hid (show D.all (·.oneCell') = true by rw [hD]; exact X2.one)
  rw [← hC] at s1 hqh
  rw [← hD] at s2 hqh
  obtain ⟨hb, hhb⟩ : ∃ hb, hb = EqHash.hEq X1.l X2.l := ⟨_, rfl⟩
  rw [← hhb] at hqh hpl
  have HCS : Hid ((Tryz.prog.info? 23).map (·.size) = some C.size) := Lib.hid (by rw [hCn]; kernel_rfl)
  have HCN : Hid (32 = C.size) := Lib.hid hCn.symm
  have HDS : Hid ((Tryz.prog.info? 23).map (·.size) = some D.size) := Lib.hid (by rw [hDn]; kernel_rfl)
  have HDN : Hid (32 = D.size) := Lib.hid hDn.symm
  have HpS : Hid ((Tryz.prog.info? 25).map (·.size) = some p.size) := Lib.hid (by rw [hp.size]; kernel_rfl)
  have HpN : Hid (37 = p.size) := Lib.hid (hp.size).symm
  have HpO : Hid (p.all (·.oneCell') = true) := Lib.hid (by rw [hp.eq]; exact WireT.entA_one _ _ _ _ _ _)
  have HqS : Hid ((Tryz.prog.info? 25).map (·.size) = some q.size) := Lib.hid (by rw [hq.size]; kernel_rfl)
  have HqN : Hid (37 = q.size) := Lib.hid (hq.size).symm
  have HqO : Hid (q.all (·.oneCell') = true) := Lib.hid (by rw [hq.eq]; exact WireT.entA_one _ _ _ _ _ _)
  have HP2S : Hid ((Tryz.prog.info? 25).map (·.size) = some P2.size) := Lib.hid (by rw [hp2.size]; kernel_rfl)
  have HP2N : Hid (37 = P2.size) := Lib.hid (hp2.size).symm
  have HP2O : Hid (P2.all (·.oneCell') = true) := Lib.hid (by rw [hp2.eq]; exact WireT.entA_one _ _ _ _ _ _)
  have HQ2S : Hid ((Tryz.prog.info? 25).map (·.size) = some Q2.size) := Lib.hid (by rw [hq2.size]; kernel_rfl)
  have HQ2N : Hid (37 = Q2.size) := Lib.hid (hq2.size).symm
  have HQ2O : Hid (Q2.all (·.oneCell') = true) := Lib.hid (by rw [hq2.eq]; exact WireT.entA_one _ _ _ _ _ _)
  have HS1 := Lib.hid s1
  have HS2 := Lib.hid s2
  have HQC0 := Lib.hid hqh
  have HGE := Lib.hid EqEnt.guardEnt
  have HGH := Lib.hid EqHash.guardHash
  have Ht1 := Lib.hid t1
  have Ht2 := Lib.hid t2
  have Hpl := Lib.hid hpl
  have Hl1 := Lib.hid hl1
  have Hl2 := Lib.hid hl2
  have HV := Lib.hid hv
  have HK := Lib.hid hk
  clear s1 s2 hqh t1 t2 hpl hl1 hl2 hhb hC hD hCn hDn hX1 hX2 hx hy hP2 hQ2 hp2 hq2 hp hq hv hk hr he hs hr' he' hs'
  obtain ⟨w0, hw0⟩ : ∃ w0, w0 = (w.alloc (.cells p 25)).alloc (.cells q 25) := ⟨_, rfl⟩
  have hb0 : Below w.heap.size w w0 := by rw [hw0]; exact ((Below.refl _ _).alloc (Nat.le_refl _) _).alloc (by simp) _
  have HP0 : Hid (w0.heap[w.heap.size]? = some (.cells p 25 (0, 0))) := Lib.hid (by rw [hw0]; exact heap_at (heap_new _ _) _)
  have HQ0 : Hid (w0.heap[w.heap.size + 1]? = some (.cells q 25 (0, 0))) := Lib.hid (by rw [hw0]; exact heap_new' _ (by simp))
  have lP0 := lt_row HP0.out
  have lQ0 := lt_row HQ0.out
  have HBL0 := Lib.hid hb0
  have HW0 := Lib.hid hw0
  have z0 := hb0.size
  clear hw0 hb0
  have hcx : checkB x = true ∨ whyOf (checkB x) = 2 := by cases checkB x <;> simp [whyOf]
  have hcy : checkB y = true ∨ whyOf (checkB y) = 2 := by cases checkB y <;> simp [whyOf]
  obtain ⟨W1, hW1⟩ : ∃ W, W = whyOf (checkB x) := ⟨_, rfl⟩
  obtain ⟨W2, hW2⟩ : ∃ W, W = whyOf (checkB y) := ⟨_, rfl⟩
  rw [← hW1] at HS1 Ht1 hcx
  rw [← hW2] at HS2 Ht2 hcy
  have hgo1 : W1 = 0 ∨ (¬ W1 = 0 ∧ (W1 == 0) = false) := by
    by_cases h : W1 = 0
    · exact .inl h
    · exact .inr ⟨h, by simpa using h⟩
  have hgo2 : W2 = 0 ∨ (¬ W2 = 0 ∧ (W2 == 0) = false) := by
    by_cases h : W2 = 0
    · exact .inl h
    · exact .inr ⟨h, by simpa using h⟩
  have Hc1 := Lib.hid (show W1 = 0 → checkB x = true from fun h => hcx.resolve_right (by omega))
  have Hc2 := Lib.hid (show W2 = 0 → checkB y = true from fun h => hcy.resolve_right (by omega))
  clear hcx hcy hW1 hW2
  have Hgo1 := Lib.hid hgo1
  have Hgo2 := Lib.hid hgo2
  clear hgo1 hgo2
  go_enter Tryz.func5, Tryz.ntmps5
  go_wp2_with fail
  rw [← HW0.out]
  refine (lives_ok w0 (HV.out.below HBL0.out) (HK.out.below HBL0.out)).mono ?_
  rintro e' w1 ⟨rfl, hb⟩
  have HP1 := Lib.hid ((hb.block _ lP0).trans HP0.out)
  have lP1 := lt_row HP1.out
  have HQ1 := Lib.hid ((hb.block _ lQ0).trans HQ0.out)
  have lQ1 := lt_row HQ1.out
  have HBL1 := Lib.hid (HBL0.out.trans (hb.mono HBL0.out.size))
  have z1 := HBL1.out.size
  clear hb z0 lP0 lQ0
  go_wp2_with (first | (refine wpList_load_row rfl _ _ rfl w.heap.size rfl _ p (0, 0) _ HP1.out Tryz.underlying25 rfl HpS.out ?_) | fail)
  refine (HS1.out w1 (HV.out.below HBL1.out) (HK.out.below HBL1.out)).mono ?_
  rintro e w2 ⟨rfl, hb⟩
  have HP2 := Lib.hid ((hb.block _ lP1).trans HP1.out)
  have lP2 := lt_row HP2.out
  have HQ2 := Lib.hid ((hb.block _ lQ1).trans HQ1.out)
  have lQ2 := lt_row HQ2.out
  have HBL2 := Lib.hid (HBL1.out.trans (hb.mono HBL1.out.size))
  have z2 := HBL2.out.size
  clear hb z1 lP1 lQ1
  go_wp2_with (first | (refine wpList_store_rowA rfl _ _ _ rfl w2.heap.size C rfl rfl _ _ (heap_new _ _) HCS.out (by rw [← HCN.out]; rfl) HCO.out ?_) | fail)
  intro u1 hu1
  have hb : Below w2.heap.size w2 u1 := by rw [hu1.out]; exact below_row ((Below.refl _ _).alloc (Nat.le_refl _) _) (Nat.le_refl _) _
  have hy : u1.heap[w2.heap.size]? = some (.cells C 23 (0, 0)) := by rw [hu1.out]; exact setRow_at (heap_new _ _)
  clear hu1
  obtain ⟨w3, hww⟩ : ∃ w', w' = u1 := ⟨_, rfl⟩
  rw [← hww] at hb hy ⊢
  clear hww
  obtain ⟨BC, hBC⟩ : ∃ B, B = w2.heap.size := ⟨_, rfl⟩
  rw [← hBC] at hy ⊢
  have gC : w.heap.size ≤ BC := by omega
  clear hBC
  have Hyn := Lib.hid hy
  clear hy
  have HP3 := Lib.hid ((hb.block _ lP2).trans HP2.out)
  have lP3 := lt_row HP3.out
  have HQ3 := Lib.hid ((hb.block _ lQ2).trans HQ2.out)
  have lQ3 := lt_row HQ3.out
  have HBL3 := Lib.hid (HBL2.out.trans (hb.mono HBL2.out.size))
  have z3 := HBL3.out.size
  clear hb z2 lP2 lQ2
  have HC3 := Lib.hid Hyn.out
  have lC3 := lt_row HC3.out
  clear Hyn
  go_wp2_with (first | (refine wpList_load_row rfl _ _ rfl (w.heap.size + 1) rfl _ q (0, 0) _ HQ3.out Tryz.underlying25 rfl HqS.out ?_) | fail)
  refine (HS2.out w3 (HV.out.below HBL3.out) (HK.out.below HBL3.out)).mono ?_
  rintro e w4 ⟨rfl, hb⟩
  have HP4 := Lib.hid ((hb.block _ lP3).trans HP3.out)
  have lP4 := lt_row HP4.out
  have HQ4 := Lib.hid ((hb.block _ lQ3).trans HQ3.out)
  have lQ4 := lt_row HQ4.out
  have HC4 := Lib.hid ((hb.block _ lC3).trans HC3.out)
  have lC4 := lt_row HC4.out
  have HBL4 := Lib.hid (HBL3.out.trans (hb.mono HBL3.out.size))
  have z4 := HBL4.out.size
  clear hb z3 lP3 lQ3 lC3
  go_wp2_with (first | (refine wpList_store_rowA rfl _ _ _ rfl w4.heap.size D rfl rfl _ _ (heap_new _ _) HDS.out (by rw [← HDN.out]; rfl) HDO.out ?_) | fail)
  intro u1 hu1
  have hb : Below w4.heap.size w4 u1 := by rw [hu1.out]; exact below_row ((Below.refl _ _).alloc (Nat.le_refl _) _) (Nat.le_refl _) _
  have hy : u1.heap[w4.heap.size]? = some (.cells D 23 (0, 0)) := by rw [hu1.out]; exact setRow_at (heap_new _ _)
  clear hu1
  obtain ⟨w5, hww⟩ : ∃ w', w' = u1 := ⟨_, rfl⟩
  rw [← hww] at hb hy ⊢
  clear hww
  obtain ⟨BD, hBD⟩ : ∃ B, B = w4.heap.size := ⟨_, rfl⟩
  rw [← hBD] at hy ⊢
  have gD : w.heap.size ≤ BD := by omega
  clear hBD
  have Hyn := Lib.hid hy
  clear hy
  have HP5 := Lib.hid ((hb.block _ lP4).trans HP4.out)
  have lP5 := lt_row HP5.out
  have HQ5 := Lib.hid ((hb.block _ lQ4).trans HQ4.out)
  have lQ5 := lt_row HQ5.out
  have HC5 := Lib.hid ((hb.block _ lC4).trans HC4.out)
  have lC5 := lt_row HC5.out
  have HBL5 := Lib.hid (HBL4.out.trans (hb.mono HBL4.out.size))
  have z5 := HBL5.out.size
  clear hb z4 lP4 lQ4 lC4
  have HD5 := Lib.hid Hyn.out
  have lD5 := lt_row HD5.out
  clear Hyn
  have hqC := HQC0.out
  have hGH := HGH.out
  rcases Hgo1.out with rfl | ⟨h1, g1⟩
  rotate_left
  · go_wp2
    go_ret
    exact ⟨rfl, HBL5.out⟩
  rcases Hgo2.out with rfl | ⟨h2, g2⟩
  rotate_left
  · go_wp2
    go_ret
    exact ⟨rfl, HBL5.out⟩
  cases hb
  · go_wp2_with (first | (refine WireT.wpList_load_rowG (by rfl) _ _ rfl BC rfl _ C (0, 0) _ HC5.out Tryz.underlying23 rfl HCS.out ?_) | (refine WireT.wpList_load_rowG (by rfl) _ _ rfl BD rfl _ D (0, 0) _ HD5.out Tryz.underlying23 rfl HDS.out ?_) | fail)
    go_ret
    exact ⟨rfl, HBL5.out⟩
  obtain ⟨b, hqE, hor, hsum⟩ := Hpl.out (Hc1.out rfl) (Hc2.out rfl) rfl
  have a1 := Ht1.out
  have a2 := Ht2.out
  rw [if_pos (Hc1.out rfl)] at a1
  rw [if_pos (Hc2.out rfl)] at a2
  obtain ⟨Ta, hTa⟩ : ∃ T, T = bsOf (EntS.text x) := ⟨_, rfl⟩
  obtain ⟨Tb, hTb⟩ : ∃ T, T = bsOf (EntS.text y) := ⟨_, rfl⟩
  have z1 : Ta.size ≤ 140737488351232 := by rw [hTa, size_bsOf]; have := Hl1.out (Hc1.out rfl); omega
  have z2 : Tb.size ≤ 140737488351232 := by rw [hTb, size_bsOf]; have := Hl2.out (Hc2.out rfl); omega
  have u1 := fun w => EntZ.Sum2_ok w Ta z1
  have u2 := fun w => EntZ.Sum2_ok w Tb z2
  rw [show bl Ta = EntS.text x by rw [hTa, bl_bsOf]] at u1
  rw [show bl Tb = EntS.text y by rw [hTb, bl_bsOf], ← hsum] at u2
  rw [← hTa] at a1 hor
  rw [← hTb] at a2 hor
  obtain ⟨R, hR⟩ : ∃ R, R = (byV (ShaS.sum (EntS.text x))).toArray := ⟨_, rfl⟩
  rw [← hR] at u1 u2
  have hqR : ∀ w, (Op.equalIn 10000 23 (.agg R) (.agg R)).run Tryz.prog w = .ok true w := by
    intro w
    rw [hR, EqEnt.pB_of (ShaS.sum_length _), EqHash.eqHash, EqHash.hEq_self]
  have T1 := Lib.hid a1
  have T2 := Lib.hid a2
  have S1 := Lib.hid u1
  have S2 := Lib.hid u2
  have HQE := Lib.hid hqE
  have Hor := Lib.hid hor
  have HQC := Lib.hid hqR
  clear a1 a2 u1 u2 hqE hor hqR hR hTa hTb hsum z1 z2
  go_wp2_with (first | (refine WireT.wpList_load_rowG (by rfl) _ _ rfl BC rfl _ C (0, 0) _ HC5.out Tryz.underlying23 rfl HCS.out ?_) | (refine WireT.wpList_load_rowG (by rfl) _ _ rfl BD rfl _ D (0, 0) _ HD5.out Tryz.underlying23 rfl HDS.out ?_) | fail)
  clear hqC hGH
  refine wp_region_noPanic ?_
  refine wp_region_held (S := (fun W => W.heap[w.heap.size]? = some (.cells p 25 (0, 0)) ∧ W.heap[w.heap.size + 1]? = some (.cells q 25 (0, 0)) ∧ Below w.heap.size w W ∧ w.heap.size + 1 < W.heap.size)) (by kernel_rfl) ?_
  change wpAnyH _ _ _ _ _ _ _ _ (World.drew w5)
  have hS0 : (w5.drew).heap[w.heap.size]? = some (.cells p 25 (0, 0)) ∧ (w5.drew).heap[w.heap.size + 1]? = some (.cells q 25 (0, 0)) ∧ Below w.heap.size w (w5.drew) ∧ w.heap.size + 1 < (w5.drew).heap.size := ⟨HP5.out, HQ5.out, (HBL5.out).drew, lQ5⟩
  refine wpAnyH_take (i := 0) (v := .agg p) rfl (by kernel_rfl) (by kernel_rfl) (by kernel_rfl) (fun _ _ _ h => h) (Or.inl ⟨by rfl, ?_⟩) hS0 ?_
  · intro wq hSw
    exact EqHash.exec_load_row 25 _ rfl _ rfl hSw.1 Tryz.underlying25 rfl HpS.out
  simp only [Act.put, List.getElem_toArray, List.getElem_cons_zero, List.getElem_cons_succ, List.setIfInBounds_toArray, List.set_cons_zero, List.set_cons_succ]
  refine wpAnyH_take (i := 1) (v := .agg q) rfl (by kernel_rfl) (by kernel_rfl) (by kernel_rfl) (fun _ _ _ h => h) (Or.inl ⟨by rfl, ?_⟩) hS0 ?_
  · intro wq hSw
    exact EqHash.exec_load_row 25 _ rfl _ rfl hSw.2.1 Tryz.underlying25 rfl HqS.out
  simp only [Act.put, List.getElem_toArray, List.getElem_cons_zero, List.getElem_cons_succ, List.setIfInBounds_toArray, List.set_cons_zero, List.set_cons_succ]
  obtain ⟨wd, hwd⟩ : ∃ wd, wd = w5.drew := ⟨_, rfl⟩
  rw [← hwd] at hS0 ⊢
  clear hwd
  refine wpAnyH_all (rs := [2, 3]) (by kernel_rfl) (by simp) ?_
  intro i hi
  simp only [List.mem_cons, List.not_mem_nil, or_false] at hi
  rcases hi with rfl | rfl
  · skip
    have hlz := hS0.2.2.2
    obtain ⟨Zl, hZl⟩ : ∃ Z : Array Value, Z = #[.string ⟨#[]⟩, .int .i64 0, .int .i64 0, .int .u8 0, .int .u8 0, .int .u8 0, .int .u8 0, .int .u8 0, .int .u8 0, .int .u8 0, .int .u8 0, .int .u8 0, .int .u8 0, .int .u8 0, .int .u8 0, .int .u8 0, .int .u8 0, .int .u8 0, .int .u8 0, .int .u8 0, .int .u8 0, .int .u8 0, .int .u8 0, .int .u8 0, .int .u8 0, .int .u8 0, .int .u8 0, .int .u8 0, .int .u8 0, .int .u8 0, .int .u8 0, .int .u8 0, .int .u8 0, .int .u8 0, .int .u8 0, .string ⟨#[]⟩, .string ⟨#[]⟩] := ⟨_, rfl⟩
    have hZn : Zl.size = 37 := by rw [hZl]; rfl
    refine wpOp_run rfl (by rfl) (w' := wd.alloc (.cells Zl 25)) (v := .pointer (some ⟨wd.heap.size, 0, none⟩)) (by rw [hZl]; go_simp; first | done | rfl) ?_
    obtain ⟨wm, h_wm⟩ : ∃ x, x = wd.alloc (.cells Zl 25) := ⟨_, rfl⟩
    rw [← h_wm]
    have hb_wm : Below wd.heap.size wd wm := by rw [h_wm]; exact (Below.refl _ _).alloc (Nat.le_refl _) _
    have hn_wm : wm.heap[wd.heap.size]? = some (.cells Zl 25 (0, 0)) := by rw [h_wm]; exact heap_new _ _
    have hz_wm : wm.heap.size = wd.heap.size + 1 := by rw [h_wm]; simp
    have hS1 : wm.heap[w.heap.size]? = some (.cells p 25 (0, 0)) ∧ wm.heap[w.heap.size + 1]? = some (.cells q 25 (0, 0)) ∧ Below w.heap.size w wm ∧ w.heap.size + 1 < wm.heap.size := ⟨(hb_wm.block _ (lt_row hS0.1)).trans hS0.1, (hb_wm.block _ (lt_row hS0.2.1)).trans hS0.2.1, hS0.2.2.1.trans (hb_wm.mono hS0.2.2.1.size), by omega⟩
    clear h_wm
    refine ⟨hS1, ?_⟩
    simp only [Act.put, List.getElem_toArray, List.getElem_cons_zero, List.getElem_cons_succ, List.setIfInBounds_toArray, List.set_cons_zero, List.set_cons_succ]
    refine wpAnyH_all (rs := [3]) (by kernel_rfl) (by simp) ?_
    intro i hi
    simp only [List.mem_cons, List.not_mem_nil, or_false] at hi
    subst hi
    refine wpOp_run rfl (by rfl) (w' := wm.alloc (.cells Zl 25)) (v := .pointer (some ⟨wm.heap.size, 0, none⟩)) (by rw [hZl]; go_simp; first | done | rfl) ?_
    obtain ⟨wn, h_wn⟩ : ∃ x, x = wm.alloc (.cells Zl 25) := ⟨_, rfl⟩
    rw [← h_wn]
    have hb_wn : Below wm.heap.size wm wn := by rw [h_wn]; exact (Below.refl _ _).alloc (Nat.le_refl _) _
    have hn_wn : wn.heap[wm.heap.size]? = some (.cells Zl 25 (0, 0)) := by rw [h_wn]; exact heap_new _ _
    have hz_wn : wn.heap.size = wm.heap.size + 1 := by rw [h_wn]; simp
    have hS2 : wn.heap[w.heap.size]? = some (.cells p 25 (0, 0)) ∧ wn.heap[w.heap.size + 1]? = some (.cells q 25 (0, 0)) ∧ Below w.heap.size w wn ∧ w.heap.size + 1 < wn.heap.size := ⟨(hb_wn.block _ (lt_row hS1.1)).trans hS1.1, (hb_wn.block _ (lt_row hS1.2.1)).trans hS1.2.1, hS1.2.2.1.trans (hb_wn.mono hS1.2.2.1.size), by omega⟩
    clear h_wn
    refine ⟨hS2, ?_⟩
    simp only [Act.put, List.getElem_toArray, List.getElem_cons_zero, List.getElem_cons_succ, List.setIfInBounds_toArray, List.set_cons_zero, List.set_cons_succ]
    have hfirst : wn.heap[wd.heap.size]? = some (.cells Zl 25 (0, 0)) := (hb_wn.block _ (lt_row hn_wm)).trans hn_wm
    obtain ⟨BX, hBX⟩ : ∃ B, B = wd.heap.size := ⟨_, rfl⟩
    obtain ⟨BY, hBY⟩ : ∃ B, B = wm.heap.size := ⟨_, rfl⟩
    have hXx : wn.heap[BX]? = some (.cells Zl 25 (0, 0)) := by rw [hBX]; exact hfirst
    have hYy : wn.heap[BY]? = some (.cells Zl 25 (0, 0)) := by rw [hBY]; exact hn_wn
    rw [← hBX, ← hBY]
    have hgx : w.heap.size + 1 < BX := by omega
    have hgy : w.heap.size + 1 < BY := by omega
    have hxy : BX ≠ BY := by omega
    clear hBX hBY hfirst hn_wm hn_wn
    refine wpAnyH_all (rs := [4]) (by kernel_rfl) (by simp) ?_
    intro i hi
    simp only [List.mem_cons, List.not_mem_nil, or_false] at hi
    subst hi
    refine WrC.wpOp_store_row rfl (by rfl) _ _ _ rfl BX p rfl rfl _ _ hXx HpS.out (by rw [hZn]; exact HpN.out) HpO.out ?_
    intro wo h_wo
    have hS3 : wo.heap[w.heap.size]? = some (.cells p 25 (0, 0)) ∧ wo.heap[w.heap.size + 1]? = some (.cells q 25 (0, 0)) ∧ Below w.heap.size w wo ∧ w.heap.size + 1 < wo.heap.size := by rw [h_wo.out]; exact ⟨(setRow_far _ (by omega)).trans hS2.1, (setRow_far _ (by omega)).trans hS2.2.1, below_row hS2.2.2.1 (by omega) _, by rw [setRow_size]; exact hS2.2.2.2⟩
    refine ⟨hS3, ?_⟩
    simp only [Act.put, List.getElem_toArray, List.getElem_cons_zero, List.getElem_cons_succ, List.setIfInBounds_toArray, List.set_cons_zero, List.set_cons_succ]
    have hx4 : wo.heap[BX]? = some (.cells p 25 (0, 0)) := by rw [h_wo.out]; exact setRow_at hXx
    have hy4 : wo.heap[BY]? = some (.cells Zl 25 (0, 0)) := by rw [h_wo.out]; exact (setRow_far _ (by omega)).trans hYy
    refine wpAnyH_all (rs := [5]) (by kernel_rfl) (by simp) ?_
    intro i hi
    simp only [List.mem_cons, List.not_mem_nil, or_false] at hi
    subst hi
    refine WrC.wpOp_store_row rfl (by rfl) _ _ _ rfl BY q rfl rfl _ _ hy4 HqS.out (by rw [hZn]; exact HqN.out) HqO.out ?_
    intro wz h_wz
    have hS4 : wz.heap[w.heap.size]? = some (.cells p 25 (0, 0)) ∧ wz.heap[w.heap.size + 1]? = some (.cells q 25 (0, 0)) ∧ Below w.heap.size w wz ∧ w.heap.size + 1 < wz.heap.size := by rw [h_wz.out]; exact ⟨(setRow_far _ (by omega)).trans hS3.1, (setRow_far _ (by omega)).trans hS3.2.1, below_row hS3.2.2.1 (by omega) _, by rw [setRow_size]; exact hS3.2.2.2⟩
    refine ⟨hS4, ?_⟩
    simp only [Act.put, List.getElem_toArray, List.getElem_cons_zero, List.getElem_cons_succ, List.setIfInBounds_toArray, List.set_cons_zero, List.set_cons_succ]
    have HX := Lib.hid (show wz.heap[BX]? = some (.cells p 25 (0, 0)) by rw [h_wz.out]; exact (setRow_far _ (by omega)).trans hx4)
    have HY := Lib.hid (show wz.heap[BY]? = some (.cells q 25 (0, 0)) by rw [h_wz.out]; exact setRow_at hy4)
    have HP := Lib.hid hS4.1
    have HQ := Lib.hid hS4.2.1
    have HB := Lib.hid hS4.2.2.1
    refine wpAnyH_done (by kernel_rfl) (NoPanic.normal ?_) _
    clear hS0 hS1 hS2 hS3 hS4 hx4 hy4 hXx hYy h_wo h_wz hZl hZn hb_wm hb_wn hz_wm hz_wn hlz
    have hne : ¬ BX = BY := by omega
    have hne' : ¬ BY = BX := by omega
    obtain ⟨cy, fy⟩ := row_facts HX.out
    have kX := (cy 36).trans H36.out
    have fX := fy 36
    clear cy fy
    obtain ⟨cy, fy⟩ := row_facts HY.out
    have kY := (cy 36).trans H36'.out
    have fY := fy 36
    clear cy fy
    have hx1 := Lib.hid (show ((wz.setCell ⟨BX, 36, none⟩ (.string ⟨#[]⟩)).setCell ⟨BY, 36, none⟩ (.string ⟨#[]⟩)).heap[BX]? = some (.cells P2 25 (0, 0)) by rw [heap_setCell_far _ (by omega), ← Hset.out]; exact heap_setCell_same HX.out _)
    have hy1 := Lib.hid (show ((wz.setCell ⟨BX, 36, none⟩ (.string ⟨#[]⟩)).setCell ⟨BY, 36, none⟩ (.string ⟨#[]⟩)).heap[BY]? = some (.cells Q2 25 (0, 0)) by rw [← Hset'.out]; exact heap_setCell_same ((heap_setCell_far _ (by omega)).trans HY.out) _)
    have hp1 := Lib.hid (show ((wz.setCell ⟨BX, 36, none⟩ (.string ⟨#[]⟩)).setCell ⟨BY, 36, none⟩ (.string ⟨#[]⟩)).heap[w.heap.size]? = some (.cells p 25 (0, 0)) by rw [heap_setCell_far _ (by omega), heap_setCell_far _ (by omega)]; exact HP.out)
    have hq1 := Lib.hid (show ((wz.setCell ⟨BX, 36, none⟩ (.string ⟨#[]⟩)).setCell ⟨BY, 36, none⟩ (.string ⟨#[]⟩)).heap[w.heap.size + 1]? = some (.cells q 25 (0, 0)) by rw [heap_setCell_far _ (by omega), heap_setCell_far _ (by omega)]; exact HQ.out)
    have hw1 := Lib.hid (show Below w.heap.size w ((wz.setCell ⟨BX, 36, none⟩ (.string ⟨#[]⟩)).setCell ⟨BY, 36, none⟩ (.string ⟨#[]⟩)) from (HB.out.setCell (p := ⟨BX, 36, none⟩) (by show w.heap.size ≤ BX; omega) _).setCell (p := ⟨BY, 36, none⟩) (by show w.heap.size ≤ BY; omega) _)
    go_wp2_with (first | (refine wpList_load_row rfl _ _ rfl w.heap.size rfl _ p (0, 0) _ hp1.out Tryz.underlying25 rfl HpS.out ?_) | fail)
    refine (T1.out _).mono ?_
    rintro e' wa ⟨rfl, hb⟩
    have hx2 := Lib.hid ((hb.block _ (lt_row hx1.out)).trans hx1.out)
    have hy2 := Lib.hid ((hb.block _ (lt_row hy1.out)).trans hy1.out)
    have hp2 := Lib.hid ((hb.block _ (lt_row hp1.out)).trans hp1.out)
    have hq2 := Lib.hid ((hb.block _ (lt_row hq1.out)).trans hq1.out)
    have hw2 := Lib.hid (hw1.out.trans (hb.mono hw1.out.size))
    clear hb kX fX kY fY
    go_wp2_with (first | (refine wpList_load_row rfl _ _ rfl (w.heap.size + 1) rfl _ q (0, 0) _ hq2.out Tryz.underlying25 rfl HqS.out ?_) | fail)
    refine (T2.out _).mono ?_
    rintro e' wb ⟨rfl, hb⟩
    have hx3 := Lib.hid ((hb.block _ (lt_row hx2.out)).trans hx2.out)
    have hy3 := Lib.hid ((hb.block _ (lt_row hy2.out)).trans hy2.out)
    have hw3 := Lib.hid (hw2.out.trans (hb.mono hw2.out.size))
    clear hb
    have hqE := HQE.out
    have hqC := HQC.out
    have hGE := HGE.out
    have hGH := HGH.out
    cases b
    · have hne2 : (Ta.toList == Tb.toList) = false := Hor.out.resolve_left (by simp)
      go_wp2_with (first | (refine wpList_load_row rfl _ _ rfl BX rfl _ P2 (0, 0) _ hx3.out Tryz.underlying25 rfl HP2S.out ?_) | (refine wpList_load_row rfl _ _ rfl BY rfl _ Q2 (0, 0) _ hy3.out Tryz.underlying25 rfl HQ2S.out ?_) | fail)
      refine (S1.out _).mono ?_
      rintro e' wc ⟨rfl, hb⟩
      have hw4 := Lib.hid (hw3.out.trans (hb.mono hw3.out.size))
      clear hb
      go_wp2_with fail
      refine (S2.out _).mono ?_
      rintro e' wd ⟨rfl, hb⟩
      have hw5 := Lib.hid (hw4.out.trans (hb.mono hw4.out.size))
      clear hb
      go_wp2
      go_ret
      exact ⟨rfl, hw5.out⟩
    · go_wp2_with (first | (refine wpList_load_row rfl _ _ rfl BX rfl _ P2 (0, 0) _ hx3.out Tryz.underlying25 rfl HP2S.out ?_) | (refine wpList_load_row rfl _ _ rfl BY rfl _ Q2 (0, 0) _ hy3.out Tryz.underlying25 rfl HQ2S.out ?_) | fail)
      go_ret
      exact ⟨rfl, hw3.out⟩
  · skip
    have hlz := hS0.2.2.2
    obtain ⟨Zl, hZl⟩ : ∃ Z : Array Value, Z = #[.string ⟨#[]⟩, .int .i64 0, .int .i64 0, .int .u8 0, .int .u8 0, .int .u8 0, .int .u8 0, .int .u8 0, .int .u8 0, .int .u8 0, .int .u8 0, .int .u8 0, .int .u8 0, .int .u8 0, .int .u8 0, .int .u8 0, .int .u8 0, .int .u8 0, .int .u8 0, .int .u8 0, .int .u8 0, .int .u8 0, .int .u8 0, .int .u8 0, .int .u8 0, .int .u8 0, .int .u8 0, .int .u8 0, .int .u8 0, .int .u8 0, .int .u8 0, .int .u8 0, .int .u8 0, .int .u8 0, .int .u8 0, .string ⟨#[]⟩, .string ⟨#[]⟩] := ⟨_, rfl⟩
    have hZn : Zl.size = 37 := by rw [hZl]; rfl
    refine wpOp_run rfl (by rfl) (w' := wd.alloc (.cells Zl 25)) (v := .pointer (some ⟨wd.heap.size, 0, none⟩)) (by rw [hZl]; go_simp; first | done | rfl) ?_
    obtain ⟨wm, h_wm⟩ : ∃ x, x = wd.alloc (.cells Zl 25) := ⟨_, rfl⟩
    rw [← h_wm]
    have hb_wm : Below wd.heap.size wd wm := by rw [h_wm]; exact (Below.refl _ _).alloc (Nat.le_refl _) _
    have hn_wm : wm.heap[wd.heap.size]? = some (.cells Zl 25 (0, 0)) := by rw [h_wm]; exact heap_new _ _
    have hz_wm : wm.heap.size = wd.heap.size + 1 := by rw [h_wm]; simp
    have hS1 : wm.heap[w.heap.size]? = some (.cells p 25 (0, 0)) ∧ wm.heap[w.heap.size + 1]? = some (.cells q 25 (0, 0)) ∧ Below w.heap.size w wm ∧ w.heap.size + 1 < wm.heap.size := ⟨(hb_wm.block _ (lt_row hS0.1)).trans hS0.1, (hb_wm.block _ (lt_row hS0.2.1)).trans hS0.2.1, hS0.2.2.1.trans (hb_wm.mono hS0.2.2.1.size), by omega⟩
    clear h_wm
    refine ⟨hS1, ?_⟩
    simp only [Act.put, List.getElem_toArray, List.getElem_cons_zero, List.getElem_cons_succ, List.setIfInBounds_toArray, List.set_cons_zero, List.set_cons_succ]
    refine wpAnyH_all (rs := [2]) (by kernel_rfl) (by simp) ?_
    intro i hi
    simp only [List.mem_cons, List.not_mem_nil, or_false] at hi
    subst hi
    refine wpOp_run rfl (by rfl) (w' := wm.alloc (.cells Zl 25)) (v := .pointer (some ⟨wm.heap.size, 0, none⟩)) (by rw [hZl]; go_simp; first | done | rfl) ?_
    obtain ⟨wn, h_wn⟩ : ∃ x, x = wm.alloc (.cells Zl 25) := ⟨_, rfl⟩
    rw [← h_wn]
    have hb_wn : Below wm.heap.size wm wn := by rw [h_wn]; exact (Below.refl _ _).alloc (Nat.le_refl _) _
    have hn_wn : wn.heap[wm.heap.size]? = some (.cells Zl 25 (0, 0)) := by rw [h_wn]; exact heap_new _ _
    have hz_wn : wn.heap.size = wm.heap.size + 1 := by rw [h_wn]; simp
    have hS2 : wn.heap[w.heap.size]? = some (.cells p 25 (0, 0)) ∧ wn.heap[w.heap.size + 1]? = some (.cells q 25 (0, 0)) ∧ Below w.heap.size w wn ∧ w.heap.size + 1 < wn.heap.size := ⟨(hb_wn.block _ (lt_row hS1.1)).trans hS1.1, (hb_wn.block _ (lt_row hS1.2.1)).trans hS1.2.1, hS1.2.2.1.trans (hb_wn.mono hS1.2.2.1.size), by omega⟩
    clear h_wn
    refine ⟨hS2, ?_⟩
    simp only [Act.put, List.getElem_toArray, List.getElem_cons_zero, List.getElem_cons_succ, List.setIfInBounds_toArray, List.set_cons_zero, List.set_cons_succ]
    have hfirst : wn.heap[wd.heap.size]? = some (.cells Zl 25 (0, 0)) := (hb_wn.block _ (lt_row hn_wm)).trans hn_wm
    obtain ⟨BX, hBX⟩ : ∃ B, B = wm.heap.size := ⟨_, rfl⟩
    obtain ⟨BY, hBY⟩ : ∃ B, B = wd.heap.size := ⟨_, rfl⟩
    have hXx : wn.heap[BX]? = some (.cells Zl 25 (0, 0)) := by rw [hBX]; exact hn_wn
    have hYy : wn.heap[BY]? = some (.cells Zl 25 (0, 0)) := by rw [hBY]; exact hfirst
    rw [← hBX, ← hBY]
    have hgx : w.heap.size + 1 < BX := by omega
    have hgy : w.heap.size + 1 < BY := by omega
    have hxy : BX ≠ BY := by omega
    clear hBX hBY hfirst hn_wm hn_wn
    refine wpAnyH_all (rs := [4]) (by kernel_rfl) (by simp) ?_
    intro i hi
    simp only [List.mem_cons, List.not_mem_nil, or_false] at hi
    subst hi
    refine WrC.wpOp_store_row rfl (by rfl) _ _ _ rfl BX p rfl rfl _ _ hXx HpS.out (by rw [hZn]; exact HpN.out) HpO.out ?_
    intro wo h_wo
    have hS3 : wo.heap[w.heap.size]? = some (.cells p 25 (0, 0)) ∧ wo.heap[w.heap.size + 1]? = some (.cells q 25 (0, 0)) ∧ Below w.heap.size w wo ∧ w.heap.size + 1 < wo.heap.size := by rw [h_wo.out]; exact ⟨(setRow_far _ (by omega)).trans hS2.1, (setRow_far _ (by omega)).trans hS2.2.1, below_row hS2.2.2.1 (by omega) _, by rw [setRow_size]; exact hS2.2.2.2⟩
    refine ⟨hS3, ?_⟩
    simp only [Act.put, List.getElem_toArray, List.getElem_cons_zero, List.getElem_cons_succ, List.setIfInBounds_toArray, List.set_cons_zero, List.set_cons_succ]
    have hx4 : wo.heap[BX]? = some (.cells p 25 (0, 0)) := by rw [h_wo.out]; exact setRow_at hXx
    have hy4 : wo.heap[BY]? = some (.cells Zl 25 (0, 0)) := by rw [h_wo.out]; exact (setRow_far _ (by omega)).trans hYy
    refine wpAnyH_all (rs := [5]) (by kernel_rfl) (by simp) ?_
    intro i hi
    simp only [List.mem_cons, List.not_mem_nil, or_false] at hi
    subst hi
    refine WrC.wpOp_store_row rfl (by rfl) _ _ _ rfl BY q rfl rfl _ _ hy4 HqS.out (by rw [hZn]; exact HqN.out) HqO.out ?_
    intro wz h_wz
    have hS4 : wz.heap[w.heap.size]? = some (.cells p 25 (0, 0)) ∧ wz.heap[w.heap.size + 1]? = some (.cells q 25 (0, 0)) ∧ Below w.heap.size w wz ∧ w.heap.size + 1 < wz.heap.size := by rw [h_wz.out]; exact ⟨(setRow_far _ (by omega)).trans hS3.1, (setRow_far _ (by omega)).trans hS3.2.1, below_row hS3.2.2.1 (by omega) _, by rw [setRow_size]; exact hS3.2.2.2⟩
    refine ⟨hS4, ?_⟩
    simp only [Act.put, List.getElem_toArray, List.getElem_cons_zero, List.getElem_cons_succ, List.setIfInBounds_toArray, List.set_cons_zero, List.set_cons_succ]
    have HX := Lib.hid (show wz.heap[BX]? = some (.cells p 25 (0, 0)) by rw [h_wz.out]; exact (setRow_far _ (by omega)).trans hx4)
    have HY := Lib.hid (show wz.heap[BY]? = some (.cells q 25 (0, 0)) by rw [h_wz.out]; exact setRow_at hy4)
    have HP := Lib.hid hS4.1
    have HQ := Lib.hid hS4.2.1
    have HB := Lib.hid hS4.2.2.1
    refine wpAnyH_done (by kernel_rfl) (NoPanic.normal ?_) _
    clear hS0 hS1 hS2 hS3 hS4 hx4 hy4 hXx hYy h_wo h_wz hZl hZn hb_wm hb_wn hz_wm hz_wn hlz
    have hne : ¬ BX = BY := by omega
    have hne' : ¬ BY = BX := by omega
    obtain ⟨cy, fy⟩ := row_facts HX.out
    have kX := (cy 36).trans H36.out
    have fX := fy 36
    clear cy fy
    obtain ⟨cy, fy⟩ := row_facts HY.out
    have kY := (cy 36).trans H36'.out
    have fY := fy 36
    clear cy fy
    have hx1 := Lib.hid (show ((wz.setCell ⟨BX, 36, none⟩ (.string ⟨#[]⟩)).setCell ⟨BY, 36, none⟩ (.string ⟨#[]⟩)).heap[BX]? = some (.cells P2 25 (0, 0)) by rw [heap_setCell_far _ (by omega), ← Hset.out]; exact heap_setCell_same HX.out _)
    have hy1 := Lib.hid (show ((wz.setCell ⟨BX, 36, none⟩ (.string ⟨#[]⟩)).setCell ⟨BY, 36, none⟩ (.string ⟨#[]⟩)).heap[BY]? = some (.cells Q2 25 (0, 0)) by rw [← Hset'.out]; exact heap_setCell_same ((heap_setCell_far _ (by omega)).trans HY.out) _)
    have hp1 := Lib.hid (show ((wz.setCell ⟨BX, 36, none⟩ (.string ⟨#[]⟩)).setCell ⟨BY, 36, none⟩ (.string ⟨#[]⟩)).heap[w.heap.size]? = some (.cells p 25 (0, 0)) by rw [heap_setCell_far _ (by omega), heap_setCell_far _ (by omega)]; exact HP.out)
    have hq1 := Lib.hid (show ((wz.setCell ⟨BX, 36, none⟩ (.string ⟨#[]⟩)).setCell ⟨BY, 36, none⟩ (.string ⟨#[]⟩)).heap[w.heap.size + 1]? = some (.cells q 25 (0, 0)) by rw [heap_setCell_far _ (by omega), heap_setCell_far _ (by omega)]; exact HQ.out)
    have hw1 := Lib.hid (show Below w.heap.size w ((wz.setCell ⟨BX, 36, none⟩ (.string ⟨#[]⟩)).setCell ⟨BY, 36, none⟩ (.string ⟨#[]⟩)) from (HB.out.setCell (p := ⟨BX, 36, none⟩) (by show w.heap.size ≤ BX; omega) _).setCell (p := ⟨BY, 36, none⟩) (by show w.heap.size ≤ BY; omega) _)
    go_wp2_with (first | (refine wpList_load_row rfl _ _ rfl w.heap.size rfl _ p (0, 0) _ hp1.out Tryz.underlying25 rfl HpS.out ?_) | fail)
    refine (T1.out _).mono ?_
    rintro e' wa ⟨rfl, hb⟩
    have hx2 := Lib.hid ((hb.block _ (lt_row hx1.out)).trans hx1.out)
    have hy2 := Lib.hid ((hb.block _ (lt_row hy1.out)).trans hy1.out)
    have hp2 := Lib.hid ((hb.block _ (lt_row hp1.out)).trans hp1.out)
    have hq2 := Lib.hid ((hb.block _ (lt_row hq1.out)).trans hq1.out)
    have hw2 := Lib.hid (hw1.out.trans (hb.mono hw1.out.size))
    clear hb kX fX kY fY
    go_wp2_with (first | (refine wpList_load_row rfl _ _ rfl (w.heap.size + 1) rfl _ q (0, 0) _ hq2.out Tryz.underlying25 rfl HqS.out ?_) | fail)
    refine (T2.out _).mono ?_
    rintro e' wb ⟨rfl, hb⟩
    have hx3 := Lib.hid ((hb.block _ (lt_row hx2.out)).trans hx2.out)
    have hy3 := Lib.hid ((hb.block _ (lt_row hy2.out)).trans hy2.out)
    have hw3 := Lib.hid (hw2.out.trans (hb.mono hw2.out.size))
    clear hb
    have hqE := HQE.out
    have hqC := HQC.out
    have hGE := HGE.out
    have hGH := HGH.out
    cases b
    · have hne2 : (Ta.toList == Tb.toList) = false := Hor.out.resolve_left (by simp)
      go_wp2_with (first | (refine wpList_load_row rfl _ _ rfl BX rfl _ P2 (0, 0) _ hx3.out Tryz.underlying25 rfl HP2S.out ?_) | (refine wpList_load_row rfl _ _ rfl BY rfl _ Q2 (0, 0) _ hy3.out Tryz.underlying25 rfl HQ2S.out ?_) | fail)
      refine (S1.out _).mono ?_
      rintro e' wc ⟨rfl, hb⟩
      have hw4 := Lib.hid (hw3.out.trans (hb.mono hw3.out.size))
      clear hb
      go_wp2_with fail
      refine (S2.out _).mono ?_
      rintro e' wd ⟨rfl, hb⟩
      have hw5 := Lib.hid (hw4.out.trans (hb.mono hw4.out.size))
      clear hb
      go_wp2
      go_ret
      exact ⟨rfl, hw5.out⟩
    · go_wp2_with (first | (refine wpList_load_row rfl _ _ rfl BX rfl _ P2 (0, 0) _ hx3.out Tryz.underlying25 rfl HP2S.out ?_) | (refine wpList_load_row rfl _ _ rfl BY rfl _ Q2 (0, 0) _ hy3.out Tryz.underlying25 rfl HQ2S.out ?_) | fail)
      go_ret
      exact ⟨rfl, hw3.out⟩


end Go.Proofs.YtooincpbmlhpbaaGreatDoor.EntO
