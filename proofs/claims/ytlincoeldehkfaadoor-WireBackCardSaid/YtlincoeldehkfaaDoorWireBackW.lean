/-
  WHAT IS PROVED: the statement's function that reads messages, rejections and questions back from their bytes answers true. Condition: the variables hold what 'VarsW' says, and the strings are not longer than the theorem says.
-/
import Derived.Test.YtlincoeldehkfaaDoorWireN
namespace Go.Proofs.YtlincoeldehkfaaDoor.WireBackW
open Go Go.RowKit Go.Shelf Go.Proofs.YtlincoeldehkfaaDoor Go.Proofs.YtlincoeldehkfaaDoor.OctetS Go.Proofs.YtlincoeldehkfaaDoor.IdentS Go.Proofs.YtlincoeldehkfaaDoor.EntS Go.Proofs.YtlincoeldehkfaaDoor.WireS Go.Proofs.YtlincoeldehkfaaDoor.OctG Go.Proofs.YtlincoeldehkfaaDoor.OctP Go.Proofs.YtlincoeldehkfaaDoor.OctQ Go.Proofs.YtlincoeldehkfaaDoor.OctA Go.Proofs.YtlincoeldehkfaaDoor.EventP Go.Proofs.YtlincoeldehkfaaDoor.EventC Go.Proofs.YtlincoeldehkfaaDoor.EntP Go.Proofs.YtlincoeldehkfaaDoor.WireT Go.Proofs.YtlincoeldehkfaaDoor.Steps Go.Proofs.YtlincoeldehkfaaDoor.Wr Go.Proofs.YtlincoeldehkfaaDoor.WireA
set_option linter.unusedVariables false
attribute [-go_sem] run_equalIn_agg
set_option linter.unusedSimpArgs false

theorem text_len {t : List UInt8} (h : t.length ≤ 8192) : (OctetS.text t).length ≤ 8194 := by
  unfold OctetS.text
  have := OctetS.num_length2 h
  rw [List.length_append]
  omega
theorem flat_len : ∀ (l : List (List UInt8)), (∀ t ∈ l, t.length ≤ 8192) → (l.flatMap OctetS.text).length ≤ 8194 * l.length
  | [], _ => by simp
  | t :: r, h => by
    have h1 := text_len (h t (by simp))
    have h2 := flat_len r (fun x hx => h x (by simp [hx]))
    simp only [List.flatMap_cons, List.length_append, List.length_cons]
    omega
theorem bytesM_len (m : Ms) : (bytesM m).length ≤ 100000 := by
  unfold bytesM
  split
  · rename_i h
    have hf := (why_iff.1 h).fits
    obtain ⟨h1, h2⟩ := fits_iff.1 hf
    have h3 := flat_len _ h2
    have h4 : (partsM m).length = 4 := rfl
    have h5 := OctetS.num_length2 (n := 4) (by omega)
    unfold OctetS.list
    rw [List.length_append, h4]
    rw [h4] at h3
    omega
  · simp
theorem rejOf_len {h : List UInt8} {c : Nat} (hh : h.length = 32) (hc : c ≤ 15) : (rejOf h c).length ≤ 100000 := by
  have hf := rej_fits hh hc
  obtain ⟨h1, h2⟩ := fits_iff.1 hf
  have h3 := flat_len _ h2
  have h4 : [h, num c].length = 2 := rfl
  have h5 := OctetS.num_length2 (n := 2) (by omega)
  unfold rejOf OctetS.list
  rw [List.length_append, h4]
  rw [h4] at h3
  omega
theorem bsz {l : List UInt8} (h : l.length ≤ 100000) : (bsOf l).size ≤ 140737488351232 := by rw [size_bsOf]; omega

/-- A message's bytes, and what is read from these. -/
theorem ways1 (p : Array Value) (k f t : Int) (b : ByteArray) (hp : p = msA k f t b) (h0 : 0 ≤ k) (hb : b.size ≤ 140737488351232) :
    ∃ (T : ByteArray) (E1 : Int) (X : Array Value) (E2 : Int), (∀ w, VarsW w → Calls Tryd.prog 5 #[.agg p] w (RB (.tuple #[.string T, .int .i64 E1]) w)) ∧ (∀ w, VarsW w → Calls Tryd.prog 6 #[.string T] w (RB (.tuple #[.agg X, .int .i64 E2]) w)) ∧ (∃ k f t b, X = msA k f t b) ∧ (E1 = 0 → E2 = 0 ∧ X = p) := by
  have c1 := fun w hv => WireI.Bytes_ok w p k f t b hp hv h0 hb
  have c2 := fun w hv => WireI.Parse_ok w (bsOf (bytesM (msOf k f t b))) (bsz (bytesM_len _)) hv
  rw [bl_bsOf] at c2
  by_cases hw : why (msOf k f t b) = 0
  · have hr := why_iff.1 hw
    rw [parse_bytes hr] at c2
    refine ⟨_, _, _, 0, c1, c2, ⟨_, _, _, _, rfl⟩, fun _ => ⟨rfl, ?_⟩⟩
    rw [hp]
    simp only [msOf, bsOf_bl]
  · cases hx : parseM (bytesM (msOf k f t b)) with
    | none => rw [hx] at c2; exact ⟨_, _, msZ, 6, c1, c2, ⟨0, 0, 0, ⟨#[]⟩, rfl⟩, fun h => absurd h hw⟩
    | some x => rw [hx] at c2; exact ⟨_, _, _, _, c1, c2, ⟨_, _, _, _, rfl⟩, fun h => absurd h hw⟩
/-- What is read from a text, and its bytes. -/
theorem ways2 (text : ByteArray) (ht : text.size ≤ 140737488351232) :
    ∃ (Y : Array Value) (E3 : Int) (B : ByteArray) (E4 E5 : Int), (∀ w, VarsW w → Calls Tryd.prog 6 #[.string text] w (RB (.tuple #[.agg Y, .int .i64 E3]) w)) ∧ (∀ w, VarsW w → Calls Tryd.prog 5 #[.agg Y] w (RB (.tuple #[.string B, .int .i64 E4]) w)) ∧ (∀ w, VarsW w → Calls Tryd.prog 7 #[.agg Y] w (RB (.int .i64 E5) w)) ∧ (∃ k f t b, Y = msA k f t b) ∧ (E3 = 0 → E4 = 0 ∧ B = text ∧ E5 = 0) := by
  have c1 := fun w hv => WireI.Parse_ok w text ht hv
  cases hx : parseM (bl text) with
  | none =>
    rw [hx] at c1
    exact ⟨msZ, 6, _, _, _, c1, fun w hv => WireI.Bytes_ok w msZ 0 0 0 ⟨#[]⟩ rfl hv (by omega) (by decide), fun w hv => WireI.Check_ok w msZ 0 0 0 ⟨#[]⟩ rfl hv (by omega) (by decide), ⟨0, 0, 0, ⟨#[]⟩, rfl⟩, fun h => by cases h⟩
  | some x =>
    rw [hx] at c1
    obtain ⟨hr, hb⟩ := parse_ok hx
    have e : msOf x.kind x.frm x.to (bsOf x.body) = x := by unfold msOf; rw [bl_bsOf]
    have hl : (bsOf x.body).size ≤ 140737488351232 := by rw [size_bsOf]; have := hr.len; omega
    refine ⟨_, _, _, _, _, c1, fun w hv => WireI.Bytes_ok w _ x.kind x.frm x.to (bsOf x.body) rfl hv (by have := hr.k0; omega) hl, fun w hv => WireI.Check_ok w _ x.kind x.frm x.to (bsOf x.body) rfl hv (by have := hr.k0; omega) hl, ⟨_, _, _, _, rfl⟩, fun _ => ?_⟩
    rw [e, hb, bsOf_bl]
    exact ⟨why_iff.2 hr, rfl, why_iff.2 hr⟩
/-- A rejection's body, and what is read from it. -/
theorem ways3 (p : Array Value) (h : List UInt8) (c : Int) (hp : p = (byV h).toArray) (hh : h.length = 32) :
    ∃ (C : ByteArray) (W5 : Int) (H : Array Value) (K W6 : Int), (∀ w, Calls Tryd.prog 8 #[.agg p, .int .i64 c] w (RB (.tuple #[.string C, .int .i64 W5]) w)) ∧ (∀ w, Calls Tryd.prog 9 #[.string C] w (RB (.tuple #[.agg H, .int .i64 K, .int .i64 W6]) w)) ∧ (∃ l : List UInt8, l.length = 32 ∧ H = (byV l).toArray) ∧ (W5 = 0 → W6 = 0 ∧ H = p ∧ K = c) := by
  have c1 := fun w => WireH.Reject_ok w p h c hp hh
  unfold WireH.rejectV at c1
  by_cases hc : 1 ≤ c ∧ c ≤ 15
  · rw [if_pos hc] at c1
    have c2 := fun w => WireH.Rejected_ok w (bsOf (rejOf h c.toNat)) (bsz (rejOf_len hh (by omega)))
    rw [bl_bsOf, rejected_rej hh (by omega) (by omega)] at c2
    refine ⟨_, _, _, _, _, c1, c2, ⟨h, hh, rfl⟩, fun _ => ⟨rfl, hp.symm, ?_⟩⟩
    simp only
    omega
  · rw [if_neg hc] at c1
    have c2 := fun w => WireH.Rejected_ok w ⟨#[]⟩ (by decide)
    rw [show rejected (bl ⟨#[]⟩) = none by decide +kernel] at c2
    exact ⟨_, _, _, _, _, c1, c2, ⟨zero32, rfl, rfl⟩, fun h => by cases h⟩
/-- A question's body, and what is read from it. -/
theorem ways4 (n : Int) :
    ∃ (D : ByteArray) (W7 N W8 : Int), (∀ w, Calls Tryd.prog 10 #[.int .i64 n] w (RB (.tuple #[.string D, .int .i64 W7]) w)) ∧ (∀ w, Calls Tryd.prog 11 #[.string D] w fun e w' => e = .returned (.tuple #[.int .i64 N, .int .i64 W8]) ∧ w = w') ∧ (W7 = 0 → W8 = 0 ∧ N = n) := by
  have c1 := fun w => WireA.Ask_ok w n
  unfold WireA.askV at c1
  by_cases hc : 0 ≤ n ∧ n ≤ 4096
  · rw [if_pos hc] at c1
    have c2 := fun w => WireA.Asked_ok w (bsOf (num n.toNat)) (by rw [size_bsOf]; have := OctetS.num_length2 (n := n.toNat) (by omega); unfold maxLen; omega)
    rw [bl_bsOf, asked_num (by omega)] at c2
    refine ⟨_, _, _, _, c1, c2, fun _ => ⟨rfl, ?_⟩⟩
    omega
  · rw [if_neg hc] at c1
    have c2 := fun w => WireA.Asked_ok w ⟨#[]⟩ (by decide)
    rw [show asked (bl ⟨#[]⟩) = none by decide +kernel] at c2
    exact ⟨_, _, _, _, c1, c2, fun h => by cases h⟩
set_option maxRecDepth 100000 in
set_option maxHeartbeats 4000000 in
theorem back_ok (w : World) (hv : VarsW w) (p q : Array Value) (k f t : Int) (b text : ByteArray) (h : List UInt8) (c n : Int) (hp : p = msA k f t b) (hq : q = (byV h).toArray) (hh : h.length = 32) (h0 : 0 ≤ k) (hb : b.size ≤ 140737488351232) (ht : text.size ≤ 140737488351232) :
    Calls Tryd.prog 3 #[.agg p, .string text, .agg q, .int .i64 c, .int .i64 n] w (RB (.bool true) w) := by
  obtain ⟨T, E1, X, E2, b1, b2, ⟨k1, f1, t1, s1, hX⟩, z1⟩ := ways1 p k f t b hp h0 hb
  obtain ⟨Y, E3, B, E4, E5, b3, b4, b5, ⟨k2, f2, t2, s2, hY⟩, z2⟩ := ways2 text ht
  obtain ⟨C, W5, H, K, W6, b6, b7, ⟨l, hHl, hH⟩, z3⟩ := ways3 q h c hq hh
  obtain ⟨D, W7, N, W8, b8, b9, z4⟩ := ways4 n
  have hps : p.size = 4 := by rw [hp]; rfl
  have HpS : Hid ((Tryd.prog.info? 24).map (·.size) = some p.size) := Lib.hid (by rw [hps]; kernel_rfl)
  have hqs : q.size = 32 := by rw [hq]; simp [byV_length, hh]
  have HqS : Hid ((Tryd.prog.info? 26).map (·.size) = some q.size) := Lib.hid (by rw [hqs]; kernel_rfl)
  have hXn : X.size = 4 := by rw [hX]; rfl
  have HXS : Hid ((Tryd.prog.info? 24).map (·.size) = some X.size) := Lib.hid (by rw [hXn]; kernel_rfl)
  have HXN : Hid (4 = X.size) := Lib.hid hXn.symm
  have HXO : Hid (X.all (·.oneCell') = true) := Lib.hid (by rw [hX]; simp [msA, Value.oneCell'])
  have hYn : Y.size = 4 := by rw [hY]; rfl
  have HYS : Hid ((Tryd.prog.info? 24).map (·.size) = some Y.size) := Lib.hid (by rw [hYn]; kernel_rfl)
  have HYN : Hid (4 = Y.size) := Lib.hid hYn.symm
  have HYO : Hid (Y.all (·.oneCell') = true) := Lib.hid (by rw [hY]; simp [msA, Value.oneCell'])
  have hHn : H.size = 32 := by rw [hH]; simp [byV_length, hHl]
  have HHS : Hid ((Tryd.prog.info? 26).map (·.size) = some H.size) := Lib.hid (by rw [hHn]; kernel_rfl)
  have HHN : Hid (32 = H.size) := Lib.hid hHn.symm
  have HHO : Hid (H.all (·.oneCell') = true) := Lib.hid (by rw [hH]; simp [byV, Value.oneCell'])
  have heq : ∀ w, (Op.equalIn 10000 24 (.agg p) (.agg p)).run Tryd.prog w = .ok true w := by rw [hp]; exact WireN.eqMs_self k f t b
  have hG := WireN.guardMs
  have heq2 : ∀ w, (Op.equalIn 10000 26 (.agg q) (.agg q)).run Tryd.prog w = .ok true w := by rw [hq]; exact WireN.eqHa_self hh
  have hG2 := EqHash.guardHash
  have C1 := Lib.hid b1
  have C2 := Lib.hid b2
  have C3 := Lib.hid b3
  have C4 := Lib.hid b4
  have C5 := Lib.hid b5
  have C6 := Lib.hid b6
  have C7 := Lib.hid b7
  have C8 := Lib.hid b8
  have C9 := Lib.hid b9
  have Z1 := Lib.hid z1
  have Z2 := Lib.hid z2
  have Z3 := Lib.hid z3
  have Z4 := Lib.hid z4
  have HEQ := Lib.hid heq
  have HGG := Lib.hid hG
  have HEQ2 := Lib.hid heq2
  have HGG2 := Lib.hid hG2
  clear heq hG heq2 hG2 b1 b2 b3 b4 b5 b6 b7 b8 b9 z1 z2 z3 z4 hX hY hH hHl hXn hYn hHn hps hqs hb ht h0 hp hq hh
  obtain ⟨w0, hw0⟩ : ∃ w0, w0 = (w.alloc (.cells p 24)).alloc (.cells q 26) := ⟨_, rfl⟩
  have hb0 : Below w.heap.size w w0 := by rw [hw0]; exact ((Below.refl _ _).alloc (Nat.le_refl _) _).alloc (by rw [show (w.alloc (.cells p 24)).heap.size = w.heap.size + 1 from by simp]; omega) _
  have HP0 : Hid (w0.heap[w.heap.size]? = some (.cells p 24 (0, 0))) := Lib.hid (by rw [hw0]; exact heap_at (heap_new _ _) _)
  have HQ0 : Hid (w0.heap[w.heap.size + 1]? = some (.cells q 26 (0, 0))) := Lib.hid (by rw [hw0]; exact heap_new' _ (by simp))
  have lP0 := lt_row HP0.out
  have lQ0 := lt_row HQ0.out
  have HBL0 := Lib.hid hb0
  have HW0 := Lib.hid hw0
  have HV0 := Lib.hid (hv.below hb0)
  clear hw0 hb0 hv
  go_enter Tryd.func3, Tryd.ntmps3
  go_wp2_with fail
  rw [← HW0.out]
  refine (WireN.lives_ok w0 HV0.out).mono ?_
  rintro e w1 ⟨rfl, hb⟩
  have HP1 := Lib.hid ((hb.block _ lP0).trans HP0.out)
  have lP1 := lt_row HP1.out
  have HQ1 := Lib.hid ((hb.block _ lQ0).trans HQ0.out)
  have lQ1 := lt_row HQ1.out
  have HBL1 := Lib.hid (HBL0.out.trans (hb.mono HBL0.out.size))
  have HV1 := Lib.hid (HV0.out.below hb)
  clear hb 
  clear lP0 lQ0
  go_wp2_with (first | (refine wpList_load_row rfl _ _ rfl w.heap.size rfl _ p (0, 0) _ HP1.out Tryd.underlying24 rfl HpS.out ?_) | fail)
  refine (C1.out w1 HV1.out).mono ?_
  rintro e w2 ⟨rfl, hb⟩
  have HP2 := Lib.hid ((hb.block _ lP1).trans HP1.out)
  have lP2 := lt_row HP2.out
  have HQ2 := Lib.hid ((hb.block _ lQ1).trans HQ1.out)
  have lQ2 := lt_row HQ2.out
  have HBL2 := Lib.hid (HBL1.out.trans (hb.mono HBL1.out.size))
  have HV2 := Lib.hid (HV1.out.below hb)
  clear hb 
  clear lP1 lQ1
  go_wp2_with fail
  refine (C2.out w2 HV2.out).mono ?_
  rintro e w3 ⟨rfl, hb⟩
  have HP3 := Lib.hid ((hb.block _ lP2).trans HP2.out)
  have lP3 := lt_row HP3.out
  have HQ3 := Lib.hid ((hb.block _ lQ2).trans HQ2.out)
  have lQ3 := lt_row HQ3.out
  have HBL3 := Lib.hid (HBL2.out.trans (hb.mono HBL2.out.size))
  have HV3 := Lib.hid (HV2.out.below hb)
  clear hb 
  clear lP2 lQ2
  go_wp2_with (first | (refine wpList_store_rowA rfl _ _ _ rfl w3.heap.size X rfl rfl _ _ (heap_new _ _) HXS.out (by rw [← HXN.out]; rfl) HXO.out ?_) | fail)
  intro u1 hu1
  have hb : Below w3.heap.size w3 u1 := by rw [hu1.out]; exact below_row ((Below.refl _ _).alloc (Nat.le_refl _) _) (Nat.le_refl _) _
  have hy : u1.heap[w3.heap.size]? = some (.cells X 24 (0, 0)) := by rw [hu1.out]; exact setRow_at (heap_new _ _)
  clear hu1
  obtain ⟨w4, hww⟩ : ∃ w', w' = u1 := ⟨_, rfl⟩
  rw [← hww] at hb hy ⊢
  clear hww
  have Hyn := Lib.hid hy
  clear hy
  have HP4 := Lib.hid ((hb.block _ lP3).trans HP3.out)
  have lP4 := lt_row HP4.out
  have HQ4 := Lib.hid ((hb.block _ lQ3).trans HQ3.out)
  have lQ4 := lt_row HQ4.out
  have HBL4 := Lib.hid (HBL3.out.trans (hb.mono HBL3.out.size))
  have HV4 := Lib.hid (HV3.out.below hb)
  clear hb 
  clear lP3 lQ3
  have HX4 := Lib.hid Hyn.out
  have lX4 := lt_row HX4.out
  clear Hyn
  go_wp2_with fail
  refine (C3.out w4 HV4.out).mono ?_
  rintro e w5 ⟨rfl, hb⟩
  have HP5 := Lib.hid ((hb.block _ lP4).trans HP4.out)
  have lP5 := lt_row HP5.out
  have HQ5 := Lib.hid ((hb.block _ lQ4).trans HQ4.out)
  have lQ5 := lt_row HQ5.out
  have HX5 := Lib.hid ((hb.block _ lX4).trans HX4.out)
  have lX5 := lt_row HX5.out
  have HBL5 := Lib.hid (HBL4.out.trans (hb.mono HBL4.out.size))
  have HV5 := Lib.hid (HV4.out.below hb)
  clear hb 
  clear lP4 lQ4 lX4
  go_wp2_with (first | (refine wpList_store_rowA rfl _ _ _ rfl w5.heap.size Y rfl rfl _ _ (heap_new _ _) HYS.out (by rw [← HYN.out]; rfl) HYO.out ?_) | fail)
  intro u1 hu1
  have hb : Below w5.heap.size w5 u1 := by rw [hu1.out]; exact below_row ((Below.refl _ _).alloc (Nat.le_refl _) _) (Nat.le_refl _) _
  have hy : u1.heap[w5.heap.size]? = some (.cells Y 24 (0, 0)) := by rw [hu1.out]; exact setRow_at (heap_new _ _)
  clear hu1
  obtain ⟨w6, hww⟩ : ∃ w', w' = u1 := ⟨_, rfl⟩
  rw [← hww] at hb hy ⊢
  clear hww
  have Hyn := Lib.hid hy
  clear hy
  have HP6 := Lib.hid ((hb.block _ lP5).trans HP5.out)
  have lP6 := lt_row HP6.out
  have HQ6 := Lib.hid ((hb.block _ lQ5).trans HQ5.out)
  have lQ6 := lt_row HQ6.out
  have HX6 := Lib.hid ((hb.block _ lX5).trans HX5.out)
  have lX6 := lt_row HX6.out
  have HBL6 := Lib.hid (HBL5.out.trans (hb.mono HBL5.out.size))
  have HV6 := Lib.hid (HV5.out.below hb)
  clear hb 
  clear lP5 lQ5 lX5
  have HY6 := Lib.hid Hyn.out
  have lY6 := lt_row HY6.out
  clear Hyn
  go_wp2_with (first | (refine wpList_load_row rfl _ _ rfl w5.heap.size rfl _ Y (0, 0) _ HY6.out Tryd.underlying24 rfl HYS.out ?_) | fail)
  refine (C4.out w6 HV6.out).mono ?_
  rintro e w7 ⟨rfl, hb⟩
  have HP7 := Lib.hid ((hb.block _ lP6).trans HP6.out)
  have lP7 := lt_row HP7.out
  have HQ7 := Lib.hid ((hb.block _ lQ6).trans HQ6.out)
  have lQ7 := lt_row HQ7.out
  have HX7 := Lib.hid ((hb.block _ lX6).trans HX6.out)
  have lX7 := lt_row HX7.out
  have HY7 := Lib.hid ((hb.block _ lY6).trans HY6.out)
  have lY7 := lt_row HY7.out
  have HBL7 := Lib.hid (HBL6.out.trans (hb.mono HBL6.out.size))
  have HV7 := Lib.hid (HV6.out.below hb)
  clear hb 
  clear lP6 lQ6 lX6 lY6
  by_cases h1 : E1 = 0
  · skip
    by_cases h3 : E3 = 0
    · skip
      obtain ⟨x1, x2⟩ := Z1.out h1
      obtain ⟨x3, x4, x5⟩ := Z2.out h3
      clear Z1 Z2
      subst h1 x1
      have heq := HEQ.out
      have hG := HGG.out
      subst h3 x3 x4 x5
      go_wp2_with (first | (refine wpList_load_rowG (by rfl) _ _ rfl w3.heap.size rfl _ X (0, 0) _ HX7.out Tryd.underlying24 rfl HXS.out ?_) | (refine wpList_load_rowG (by rfl) _ _ rfl w.heap.size rfl _ p (0, 0) _ HP7.out Tryd.underlying24 rfl HpS.out ?_) | (refine wpList_load_rowG (by rfl) _ _ rfl w5.heap.size rfl _ Y (0, 0) _ HY7.out Tryd.underlying24 rfl HYS.out ?_) | (refine wpList_load_row rfl _ _ rfl (w.heap.size + 1) rfl _ q (0, 0) _ HQ7.out Tryd.underlying26 rfl HqS.out ?_) | fail)
      refine (C5.out w7 HV7.out).mono ?_
      rintro e w8 ⟨rfl, hb⟩
      have HP8 := Lib.hid ((hb.block _ lP7).trans HP7.out)
      have lP8 := lt_row HP8.out
      have HQ8 := Lib.hid ((hb.block _ lQ7).trans HQ7.out)
      have lQ8 := lt_row HQ8.out
      have HX8 := Lib.hid ((hb.block _ lX7).trans HX7.out)
      have lX8 := lt_row HX8.out
      have HY8 := Lib.hid ((hb.block _ lY7).trans HY7.out)
      have lY8 := lt_row HY8.out
      have HBL8 := Lib.hid (HBL7.out.trans (hb.mono HBL7.out.size))
      have HV8 := Lib.hid (HV7.out.below hb)
      clear hb 
      clear lP7 lQ7 lX7 lY7
      go_wp2_with (first | (refine wpList_load_row rfl _ _ rfl (w.heap.size + 1) rfl _ q (0, 0) _ HQ8.out Tryd.underlying26 rfl HqS.out ?_) | fail)
      refine (C6.out w8).mono ?_
      rintro e w9 ⟨rfl, hb⟩
      have HP9 := Lib.hid ((hb.block _ lP8).trans HP8.out)
      have lP9 := lt_row HP9.out
      have HQ9 := Lib.hid ((hb.block _ lQ8).trans HQ8.out)
      have lQ9 := lt_row HQ9.out
      have HX9 := Lib.hid ((hb.block _ lX8).trans HX8.out)
      have lX9 := lt_row HX9.out
      have HY9 := Lib.hid ((hb.block _ lY8).trans HY8.out)
      have lY9 := lt_row HY9.out
      have HBL9 := Lib.hid (HBL8.out.trans (hb.mono HBL8.out.size))
      have HV9 := Lib.hid (HV8.out.below hb)
      clear hb 
      clear lP8 lQ8 lX8 lY8
      go_wp2_with fail
      refine (C7.out w9).mono ?_
      rintro e w10 ⟨rfl, hb⟩
      have HP10 := Lib.hid ((hb.block _ lP9).trans HP9.out)
      have lP10 := lt_row HP10.out
      have HQ10 := Lib.hid ((hb.block _ lQ9).trans HQ9.out)
      have lQ10 := lt_row HQ10.out
      have HX10 := Lib.hid ((hb.block _ lX9).trans HX9.out)
      have lX10 := lt_row HX10.out
      have HY10 := Lib.hid ((hb.block _ lY9).trans HY9.out)
      have lY10 := lt_row HY10.out
      have HBL10 := Lib.hid (HBL9.out.trans (hb.mono HBL9.out.size))
      have HV10 := Lib.hid (HV9.out.below hb)
      clear hb 
      clear lP9 lQ9 lX9 lY9
      go_wp2_with (first | (refine wpList_store_rowA rfl _ _ _ rfl w10.heap.size H rfl rfl _ _ (heap_new _ _) HHS.out (by rw [← HHN.out]; rfl) HHO.out ?_) | fail)
      intro u1 hu1
      have hb : Below w10.heap.size w10 u1 := by rw [hu1.out]; exact below_row ((Below.refl _ _).alloc (Nat.le_refl _) _) (Nat.le_refl _) _
      have hy : u1.heap[w10.heap.size]? = some (.cells H 26 (0, 0)) := by rw [hu1.out]; exact setRow_at (heap_new _ _)
      clear hu1
      obtain ⟨w11, hww⟩ : ∃ w', w' = u1 := ⟨_, rfl⟩
      rw [← hww] at hb hy ⊢
      clear hww
      have Hyn := Lib.hid hy
      clear hy
      have HP11 := Lib.hid ((hb.block _ lP10).trans HP10.out)
      have lP11 := lt_row HP11.out
      have HQ11 := Lib.hid ((hb.block _ lQ10).trans HQ10.out)
      have lQ11 := lt_row HQ11.out
      have HX11 := Lib.hid ((hb.block _ lX10).trans HX10.out)
      have lX11 := lt_row HX11.out
      have HY11 := Lib.hid ((hb.block _ lY10).trans HY10.out)
      have lY11 := lt_row HY11.out
      have HBL11 := Lib.hid (HBL10.out.trans (hb.mono HBL10.out.size))
      have HV11 := Lib.hid (HV10.out.below hb)
      clear hb 
      clear lP10 lQ10 lX10 lY10
      have HH11 := Lib.hid Hyn.out
      have lH11 := lt_row HH11.out
      clear Hyn
      go_wp2_with fail
      refine (C8.out w11).mono ?_
      rintro e w12 ⟨rfl, hb⟩
      have HP12 := Lib.hid ((hb.block _ lP11).trans HP11.out)
      have lP12 := lt_row HP12.out
      have HQ12 := Lib.hid ((hb.block _ lQ11).trans HQ11.out)
      have lQ12 := lt_row HQ12.out
      have HX12 := Lib.hid ((hb.block _ lX11).trans HX11.out)
      have lX12 := lt_row HX12.out
      have HY12 := Lib.hid ((hb.block _ lY11).trans HY11.out)
      have lY12 := lt_row HY12.out
      have HH12 := Lib.hid ((hb.block _ lH11).trans HH11.out)
      have lH12 := lt_row HH12.out
      have HBL12 := Lib.hid (HBL11.out.trans (hb.mono HBL11.out.size))
      have HV12 := Lib.hid (HV11.out.below hb)
      clear hb 
      clear lP11 lQ11 lX11 lY11 lH11
      go_wp2_with fail
      refine (C9.out w12).mono ?_
      rintro e wz ⟨rfl, rfl⟩
      by_cases h5 : W5 = 0
      · skip
        by_cases h7 : W7 = 0
        · skip
          obtain ⟨y1, y2, y3⟩ := Z3.out h5
          obtain ⟨y4, y5⟩ := Z4.out h7
          clear Z3 Z4
          subst h5 y1 y3
          subst h7 y4 y5
          have heq2 := HEQ2.out
          have hG2 := HGG2.out
          go_wp2_with (first | (refine wpList_load_rowG (by rfl) _ _ rfl w10.heap.size rfl _ H (0, 0) _ HH12.out Tryd.underlying26 rfl HHS.out ?_) | (refine wpList_load_rowG (by rfl) _ _ rfl (w.heap.size + 1) rfl _ q (0, 0) _ HQ12.out Tryd.underlying26 rfl HqS.out ?_) | fail)
          go_ret
          exact ⟨by simp [*], HBL12.out⟩
        · skip
          obtain ⟨y1, y2, y3⟩ := Z3.out h5
          clear Z3 Z4
          subst h5 y1 y3
          have heq2 := HEQ2.out
          have hG2 := HGG2.out
          go_wp2_with (first | (refine wpList_load_rowG (by rfl) _ _ rfl w10.heap.size rfl _ H (0, 0) _ HH12.out Tryd.underlying26 rfl HHS.out ?_) | (refine wpList_load_rowG (by rfl) _ _ rfl (w.heap.size + 1) rfl _ q (0, 0) _ HQ12.out Tryd.underlying26 rfl HqS.out ?_) | fail)
          go_ret
          exact ⟨by simp [*], HBL12.out⟩
      · skip
        by_cases h7 : W7 = 0
        · skip
          obtain ⟨y4, y5⟩ := Z4.out h7
          clear Z3 Z4
          subst h7 y4 y5
          go_wp2_with (first | (refine wpList_load_rowG (by rfl) _ _ rfl w10.heap.size rfl _ H (0, 0) _ HH12.out Tryd.underlying26 rfl HHS.out ?_) | (refine wpList_load_rowG (by rfl) _ _ rfl (w.heap.size + 1) rfl _ q (0, 0) _ HQ12.out Tryd.underlying26 rfl HqS.out ?_) | fail)
          go_ret
          exact ⟨by simp [*], HBL12.out⟩
        · skip
          clear Z3 Z4
          go_wp2_with (first | (refine wpList_load_rowG (by rfl) _ _ rfl w10.heap.size rfl _ H (0, 0) _ HH12.out Tryd.underlying26 rfl HHS.out ?_) | (refine wpList_load_rowG (by rfl) _ _ rfl (w.heap.size + 1) rfl _ q (0, 0) _ HQ12.out Tryd.underlying26 rfl HqS.out ?_) | fail)
          go_ret
          exact ⟨by simp [*], HBL12.out⟩
    · skip
      obtain ⟨x1, x2⟩ := Z1.out h1
      clear Z1 Z2
      subst h1 x1
      have heq := HEQ.out
      have hG := HGG.out
      go_wp2_with (first | (refine wpList_load_rowG (by rfl) _ _ rfl w3.heap.size rfl _ X (0, 0) _ HX7.out Tryd.underlying24 rfl HXS.out ?_) | (refine wpList_load_rowG (by rfl) _ _ rfl w.heap.size rfl _ p (0, 0) _ HP7.out Tryd.underlying24 rfl HpS.out ?_) | (refine wpList_load_rowG (by rfl) _ _ rfl w5.heap.size rfl _ Y (0, 0) _ HY7.out Tryd.underlying24 rfl HYS.out ?_) | (refine wpList_load_row rfl _ _ rfl (w.heap.size + 1) rfl _ q (0, 0) _ HQ7.out Tryd.underlying26 rfl HqS.out ?_) | fail)
      refine (C6.out w7).mono ?_
      rintro e w8 ⟨rfl, hb⟩
      have HP8 := Lib.hid ((hb.block _ lP7).trans HP7.out)
      have lP8 := lt_row HP8.out
      have HQ8 := Lib.hid ((hb.block _ lQ7).trans HQ7.out)
      have lQ8 := lt_row HQ8.out
      have HX8 := Lib.hid ((hb.block _ lX7).trans HX7.out)
      have lX8 := lt_row HX8.out
      have HY8 := Lib.hid ((hb.block _ lY7).trans HY7.out)
      have lY8 := lt_row HY8.out
      have HBL8 := Lib.hid (HBL7.out.trans (hb.mono HBL7.out.size))
      have HV8 := Lib.hid (HV7.out.below hb)
      clear hb 
      clear lP7 lQ7 lX7 lY7
      go_wp2_with fail
      refine (C7.out w8).mono ?_
      rintro e w9 ⟨rfl, hb⟩
      have HP9 := Lib.hid ((hb.block _ lP8).trans HP8.out)
      have lP9 := lt_row HP9.out
      have HQ9 := Lib.hid ((hb.block _ lQ8).trans HQ8.out)
      have lQ9 := lt_row HQ9.out
      have HX9 := Lib.hid ((hb.block _ lX8).trans HX8.out)
      have lX9 := lt_row HX9.out
      have HY9 := Lib.hid ((hb.block _ lY8).trans HY8.out)
      have lY9 := lt_row HY9.out
      have HBL9 := Lib.hid (HBL8.out.trans (hb.mono HBL8.out.size))
      have HV9 := Lib.hid (HV8.out.below hb)
      clear hb 
      clear lP8 lQ8 lX8 lY8
      go_wp2_with (first | (refine wpList_store_rowA rfl _ _ _ rfl w9.heap.size H rfl rfl _ _ (heap_new _ _) HHS.out (by rw [← HHN.out]; rfl) HHO.out ?_) | fail)
      intro u1 hu1
      have hb : Below w9.heap.size w9 u1 := by rw [hu1.out]; exact below_row ((Below.refl _ _).alloc (Nat.le_refl _) _) (Nat.le_refl _) _
      have hy : u1.heap[w9.heap.size]? = some (.cells H 26 (0, 0)) := by rw [hu1.out]; exact setRow_at (heap_new _ _)
      clear hu1
      obtain ⟨w10, hww⟩ : ∃ w', w' = u1 := ⟨_, rfl⟩
      rw [← hww] at hb hy ⊢
      clear hww
      have Hyn := Lib.hid hy
      clear hy
      have HP10 := Lib.hid ((hb.block _ lP9).trans HP9.out)
      have lP10 := lt_row HP10.out
      have HQ10 := Lib.hid ((hb.block _ lQ9).trans HQ9.out)
      have lQ10 := lt_row HQ10.out
      have HX10 := Lib.hid ((hb.block _ lX9).trans HX9.out)
      have lX10 := lt_row HX10.out
      have HY10 := Lib.hid ((hb.block _ lY9).trans HY9.out)
      have lY10 := lt_row HY10.out
      have HBL10 := Lib.hid (HBL9.out.trans (hb.mono HBL9.out.size))
      have HV10 := Lib.hid (HV9.out.below hb)
      clear hb 
      clear lP9 lQ9 lX9 lY9
      have HH10 := Lib.hid Hyn.out
      have lH10 := lt_row HH10.out
      clear Hyn
      go_wp2_with fail
      refine (C8.out w10).mono ?_
      rintro e w11 ⟨rfl, hb⟩
      have HP11 := Lib.hid ((hb.block _ lP10).trans HP10.out)
      have lP11 := lt_row HP11.out
      have HQ11 := Lib.hid ((hb.block _ lQ10).trans HQ10.out)
      have lQ11 := lt_row HQ11.out
      have HX11 := Lib.hid ((hb.block _ lX10).trans HX10.out)
      have lX11 := lt_row HX11.out
      have HY11 := Lib.hid ((hb.block _ lY10).trans HY10.out)
      have lY11 := lt_row HY11.out
      have HH11 := Lib.hid ((hb.block _ lH10).trans HH10.out)
      have lH11 := lt_row HH11.out
      have HBL11 := Lib.hid (HBL10.out.trans (hb.mono HBL10.out.size))
      have HV11 := Lib.hid (HV10.out.below hb)
      clear hb 
      clear lP10 lQ10 lX10 lY10 lH10
      go_wp2_with fail
      refine (C9.out w11).mono ?_
      rintro e wz ⟨rfl, rfl⟩
      by_cases h5 : W5 = 0
      · skip
        by_cases h7 : W7 = 0
        · skip
          obtain ⟨y1, y2, y3⟩ := Z3.out h5
          obtain ⟨y4, y5⟩ := Z4.out h7
          clear Z3 Z4
          subst h5 y1 y3
          subst h7 y4 y5
          have heq2 := HEQ2.out
          have hG2 := HGG2.out
          go_wp2_with (first | (refine wpList_load_rowG (by rfl) _ _ rfl w9.heap.size rfl _ H (0, 0) _ HH11.out Tryd.underlying26 rfl HHS.out ?_) | (refine wpList_load_rowG (by rfl) _ _ rfl (w.heap.size + 1) rfl _ q (0, 0) _ HQ11.out Tryd.underlying26 rfl HqS.out ?_) | fail)
          go_ret
          exact ⟨by simp [*], HBL11.out⟩
        · skip
          obtain ⟨y1, y2, y3⟩ := Z3.out h5
          clear Z3 Z4
          subst h5 y1 y3
          have heq2 := HEQ2.out
          have hG2 := HGG2.out
          go_wp2_with (first | (refine wpList_load_rowG (by rfl) _ _ rfl w9.heap.size rfl _ H (0, 0) _ HH11.out Tryd.underlying26 rfl HHS.out ?_) | (refine wpList_load_rowG (by rfl) _ _ rfl (w.heap.size + 1) rfl _ q (0, 0) _ HQ11.out Tryd.underlying26 rfl HqS.out ?_) | fail)
          go_ret
          exact ⟨by simp [*], HBL11.out⟩
      · skip
        by_cases h7 : W7 = 0
        · skip
          obtain ⟨y4, y5⟩ := Z4.out h7
          clear Z3 Z4
          subst h7 y4 y5
          go_wp2_with (first | (refine wpList_load_rowG (by rfl) _ _ rfl w9.heap.size rfl _ H (0, 0) _ HH11.out Tryd.underlying26 rfl HHS.out ?_) | (refine wpList_load_rowG (by rfl) _ _ rfl (w.heap.size + 1) rfl _ q (0, 0) _ HQ11.out Tryd.underlying26 rfl HqS.out ?_) | fail)
          go_ret
          exact ⟨by simp [*], HBL11.out⟩
        · skip
          clear Z3 Z4
          go_wp2_with (first | (refine wpList_load_rowG (by rfl) _ _ rfl w9.heap.size rfl _ H (0, 0) _ HH11.out Tryd.underlying26 rfl HHS.out ?_) | (refine wpList_load_rowG (by rfl) _ _ rfl (w.heap.size + 1) rfl _ q (0, 0) _ HQ11.out Tryd.underlying26 rfl HqS.out ?_) | fail)
          go_ret
          exact ⟨by simp [*], HBL11.out⟩
  · skip
    by_cases h3 : E3 = 0
    · skip
      obtain ⟨x3, x4, x5⟩ := Z2.out h3
      clear Z1 Z2
      subst h3 x3 x4 x5
      go_wp2_with (first | (refine wpList_load_rowG (by rfl) _ _ rfl w3.heap.size rfl _ X (0, 0) _ HX7.out Tryd.underlying24 rfl HXS.out ?_) | (refine wpList_load_rowG (by rfl) _ _ rfl w.heap.size rfl _ p (0, 0) _ HP7.out Tryd.underlying24 rfl HpS.out ?_) | (refine wpList_load_rowG (by rfl) _ _ rfl w5.heap.size rfl _ Y (0, 0) _ HY7.out Tryd.underlying24 rfl HYS.out ?_) | (refine wpList_load_row rfl _ _ rfl (w.heap.size + 1) rfl _ q (0, 0) _ HQ7.out Tryd.underlying26 rfl HqS.out ?_) | fail)
      refine (C5.out w7 HV7.out).mono ?_
      rintro e w8 ⟨rfl, hb⟩
      have HP8 := Lib.hid ((hb.block _ lP7).trans HP7.out)
      have lP8 := lt_row HP8.out
      have HQ8 := Lib.hid ((hb.block _ lQ7).trans HQ7.out)
      have lQ8 := lt_row HQ8.out
      have HX8 := Lib.hid ((hb.block _ lX7).trans HX7.out)
      have lX8 := lt_row HX8.out
      have HY8 := Lib.hid ((hb.block _ lY7).trans HY7.out)
      have lY8 := lt_row HY8.out
      have HBL8 := Lib.hid (HBL7.out.trans (hb.mono HBL7.out.size))
      have HV8 := Lib.hid (HV7.out.below hb)
      clear hb 
      clear lP7 lQ7 lX7 lY7
      go_wp2_with (first | (refine wpList_load_row rfl _ _ rfl (w.heap.size + 1) rfl _ q (0, 0) _ HQ8.out Tryd.underlying26 rfl HqS.out ?_) | fail)
      refine (C6.out w8).mono ?_
      rintro e w9 ⟨rfl, hb⟩
      have HP9 := Lib.hid ((hb.block _ lP8).trans HP8.out)
      have lP9 := lt_row HP9.out
      have HQ9 := Lib.hid ((hb.block _ lQ8).trans HQ8.out)
      have lQ9 := lt_row HQ9.out
      have HX9 := Lib.hid ((hb.block _ lX8).trans HX8.out)
      have lX9 := lt_row HX9.out
      have HY9 := Lib.hid ((hb.block _ lY8).trans HY8.out)
      have lY9 := lt_row HY9.out
      have HBL9 := Lib.hid (HBL8.out.trans (hb.mono HBL8.out.size))
      have HV9 := Lib.hid (HV8.out.below hb)
      clear hb 
      clear lP8 lQ8 lX8 lY8
      go_wp2_with fail
      refine (C7.out w9).mono ?_
      rintro e w10 ⟨rfl, hb⟩
      have HP10 := Lib.hid ((hb.block _ lP9).trans HP9.out)
      have lP10 := lt_row HP10.out
      have HQ10 := Lib.hid ((hb.block _ lQ9).trans HQ9.out)
      have lQ10 := lt_row HQ10.out
      have HX10 := Lib.hid ((hb.block _ lX9).trans HX9.out)
      have lX10 := lt_row HX10.out
      have HY10 := Lib.hid ((hb.block _ lY9).trans HY9.out)
      have lY10 := lt_row HY10.out
      have HBL10 := Lib.hid (HBL9.out.trans (hb.mono HBL9.out.size))
      have HV10 := Lib.hid (HV9.out.below hb)
      clear hb 
      clear lP9 lQ9 lX9 lY9
      go_wp2_with (first | (refine wpList_store_rowA rfl _ _ _ rfl w10.heap.size H rfl rfl _ _ (heap_new _ _) HHS.out (by rw [← HHN.out]; rfl) HHO.out ?_) | fail)
      intro u1 hu1
      have hb : Below w10.heap.size w10 u1 := by rw [hu1.out]; exact below_row ((Below.refl _ _).alloc (Nat.le_refl _) _) (Nat.le_refl _) _
      have hy : u1.heap[w10.heap.size]? = some (.cells H 26 (0, 0)) := by rw [hu1.out]; exact setRow_at (heap_new _ _)
      clear hu1
      obtain ⟨w11, hww⟩ : ∃ w', w' = u1 := ⟨_, rfl⟩
      rw [← hww] at hb hy ⊢
      clear hww
      have Hyn := Lib.hid hy
      clear hy
      have HP11 := Lib.hid ((hb.block _ lP10).trans HP10.out)
      have lP11 := lt_row HP11.out
      have HQ11 := Lib.hid ((hb.block _ lQ10).trans HQ10.out)
      have lQ11 := lt_row HQ11.out
      have HX11 := Lib.hid ((hb.block _ lX10).trans HX10.out)
      have lX11 := lt_row HX11.out
      have HY11 := Lib.hid ((hb.block _ lY10).trans HY10.out)
      have lY11 := lt_row HY11.out
      have HBL11 := Lib.hid (HBL10.out.trans (hb.mono HBL10.out.size))
      have HV11 := Lib.hid (HV10.out.below hb)
      clear hb 
      clear lP10 lQ10 lX10 lY10
      have HH11 := Lib.hid Hyn.out
      have lH11 := lt_row HH11.out
      clear Hyn
      go_wp2_with fail
      refine (C8.out w11).mono ?_
      rintro e w12 ⟨rfl, hb⟩
      have HP12 := Lib.hid ((hb.block _ lP11).trans HP11.out)
      have lP12 := lt_row HP12.out
      have HQ12 := Lib.hid ((hb.block _ lQ11).trans HQ11.out)
      have lQ12 := lt_row HQ12.out
      have HX12 := Lib.hid ((hb.block _ lX11).trans HX11.out)
      have lX12 := lt_row HX12.out
      have HY12 := Lib.hid ((hb.block _ lY11).trans HY11.out)
      have lY12 := lt_row HY12.out
      have HH12 := Lib.hid ((hb.block _ lH11).trans HH11.out)
      have lH12 := lt_row HH12.out
      have HBL12 := Lib.hid (HBL11.out.trans (hb.mono HBL11.out.size))
      have HV12 := Lib.hid (HV11.out.below hb)
      clear hb 
      clear lP11 lQ11 lX11 lY11 lH11
      go_wp2_with fail
      refine (C9.out w12).mono ?_
      rintro e wz ⟨rfl, rfl⟩
      by_cases h5 : W5 = 0
      · skip
        by_cases h7 : W7 = 0
        · skip
          obtain ⟨y1, y2, y3⟩ := Z3.out h5
          obtain ⟨y4, y5⟩ := Z4.out h7
          clear Z3 Z4
          subst h5 y1 y3
          subst h7 y4 y5
          have heq2 := HEQ2.out
          have hG2 := HGG2.out
          go_wp2_with (first | (refine wpList_load_rowG (by rfl) _ _ rfl w10.heap.size rfl _ H (0, 0) _ HH12.out Tryd.underlying26 rfl HHS.out ?_) | (refine wpList_load_rowG (by rfl) _ _ rfl (w.heap.size + 1) rfl _ q (0, 0) _ HQ12.out Tryd.underlying26 rfl HqS.out ?_) | fail)
          go_ret
          exact ⟨by simp [*], HBL12.out⟩
        · skip
          obtain ⟨y1, y2, y3⟩ := Z3.out h5
          clear Z3 Z4
          subst h5 y1 y3
          have heq2 := HEQ2.out
          have hG2 := HGG2.out
          go_wp2_with (first | (refine wpList_load_rowG (by rfl) _ _ rfl w10.heap.size rfl _ H (0, 0) _ HH12.out Tryd.underlying26 rfl HHS.out ?_) | (refine wpList_load_rowG (by rfl) _ _ rfl (w.heap.size + 1) rfl _ q (0, 0) _ HQ12.out Tryd.underlying26 rfl HqS.out ?_) | fail)
          go_ret
          exact ⟨by simp [*], HBL12.out⟩
      · skip
        by_cases h7 : W7 = 0
        · skip
          obtain ⟨y4, y5⟩ := Z4.out h7
          clear Z3 Z4
          subst h7 y4 y5
          go_wp2_with (first | (refine wpList_load_rowG (by rfl) _ _ rfl w10.heap.size rfl _ H (0, 0) _ HH12.out Tryd.underlying26 rfl HHS.out ?_) | (refine wpList_load_rowG (by rfl) _ _ rfl (w.heap.size + 1) rfl _ q (0, 0) _ HQ12.out Tryd.underlying26 rfl HqS.out ?_) | fail)
          go_ret
          exact ⟨by simp [*], HBL12.out⟩
        · skip
          clear Z3 Z4
          go_wp2_with (first | (refine wpList_load_rowG (by rfl) _ _ rfl w10.heap.size rfl _ H (0, 0) _ HH12.out Tryd.underlying26 rfl HHS.out ?_) | (refine wpList_load_rowG (by rfl) _ _ rfl (w.heap.size + 1) rfl _ q (0, 0) _ HQ12.out Tryd.underlying26 rfl HqS.out ?_) | fail)
          go_ret
          exact ⟨by simp [*], HBL12.out⟩
    · skip
      clear Z1 Z2
      go_wp2_with (first | (refine wpList_load_rowG (by rfl) _ _ rfl w3.heap.size rfl _ X (0, 0) _ HX7.out Tryd.underlying24 rfl HXS.out ?_) | (refine wpList_load_rowG (by rfl) _ _ rfl w.heap.size rfl _ p (0, 0) _ HP7.out Tryd.underlying24 rfl HpS.out ?_) | (refine wpList_load_rowG (by rfl) _ _ rfl w5.heap.size rfl _ Y (0, 0) _ HY7.out Tryd.underlying24 rfl HYS.out ?_) | (refine wpList_load_row rfl _ _ rfl (w.heap.size + 1) rfl _ q (0, 0) _ HQ7.out Tryd.underlying26 rfl HqS.out ?_) | fail)
      refine (C6.out w7).mono ?_
      rintro e w8 ⟨rfl, hb⟩
      have HP8 := Lib.hid ((hb.block _ lP7).trans HP7.out)
      have lP8 := lt_row HP8.out
      have HQ8 := Lib.hid ((hb.block _ lQ7).trans HQ7.out)
      have lQ8 := lt_row HQ8.out
      have HX8 := Lib.hid ((hb.block _ lX7).trans HX7.out)
      have lX8 := lt_row HX8.out
      have HY8 := Lib.hid ((hb.block _ lY7).trans HY7.out)
      have lY8 := lt_row HY8.out
      have HBL8 := Lib.hid (HBL7.out.trans (hb.mono HBL7.out.size))
      have HV8 := Lib.hid (HV7.out.below hb)
      clear hb 
      clear lP7 lQ7 lX7 lY7
      go_wp2_with fail
      refine (C7.out w8).mono ?_
      rintro e w9 ⟨rfl, hb⟩
      have HP9 := Lib.hid ((hb.block _ lP8).trans HP8.out)
      have lP9 := lt_row HP9.out
      have HQ9 := Lib.hid ((hb.block _ lQ8).trans HQ8.out)
      have lQ9 := lt_row HQ9.out
      have HX9 := Lib.hid ((hb.block _ lX8).trans HX8.out)
      have lX9 := lt_row HX9.out
      have HY9 := Lib.hid ((hb.block _ lY8).trans HY8.out)
      have lY9 := lt_row HY9.out
      have HBL9 := Lib.hid (HBL8.out.trans (hb.mono HBL8.out.size))
      have HV9 := Lib.hid (HV8.out.below hb)
      clear hb 
      clear lP8 lQ8 lX8 lY8
      go_wp2_with (first | (refine wpList_store_rowA rfl _ _ _ rfl w9.heap.size H rfl rfl _ _ (heap_new _ _) HHS.out (by rw [← HHN.out]; rfl) HHO.out ?_) | fail)
      intro u1 hu1
      have hb : Below w9.heap.size w9 u1 := by rw [hu1.out]; exact below_row ((Below.refl _ _).alloc (Nat.le_refl _) _) (Nat.le_refl _) _
      have hy : u1.heap[w9.heap.size]? = some (.cells H 26 (0, 0)) := by rw [hu1.out]; exact setRow_at (heap_new _ _)
      clear hu1
      obtain ⟨w10, hww⟩ : ∃ w', w' = u1 := ⟨_, rfl⟩
      rw [← hww] at hb hy ⊢
      clear hww
      have Hyn := Lib.hid hy
      clear hy
      have HP10 := Lib.hid ((hb.block _ lP9).trans HP9.out)
      have lP10 := lt_row HP10.out
      have HQ10 := Lib.hid ((hb.block _ lQ9).trans HQ9.out)
      have lQ10 := lt_row HQ10.out
      have HX10 := Lib.hid ((hb.block _ lX9).trans HX9.out)
      have lX10 := lt_row HX10.out
      have HY10 := Lib.hid ((hb.block _ lY9).trans HY9.out)
      have lY10 := lt_row HY10.out
      have HBL10 := Lib.hid (HBL9.out.trans (hb.mono HBL9.out.size))
      have HV10 := Lib.hid (HV9.out.below hb)
      clear hb 
      clear lP9 lQ9 lX9 lY9
      have HH10 := Lib.hid Hyn.out
      have lH10 := lt_row HH10.out
      clear Hyn
      go_wp2_with fail
      refine (C8.out w10).mono ?_
      rintro e w11 ⟨rfl, hb⟩
      have HP11 := Lib.hid ((hb.block _ lP10).trans HP10.out)
      have lP11 := lt_row HP11.out
      have HQ11 := Lib.hid ((hb.block _ lQ10).trans HQ10.out)
      have lQ11 := lt_row HQ11.out
      have HX11 := Lib.hid ((hb.block _ lX10).trans HX10.out)
      have lX11 := lt_row HX11.out
      have HY11 := Lib.hid ((hb.block _ lY10).trans HY10.out)
      have lY11 := lt_row HY11.out
      have HH11 := Lib.hid ((hb.block _ lH10).trans HH10.out)
      have lH11 := lt_row HH11.out
      have HBL11 := Lib.hid (HBL10.out.trans (hb.mono HBL10.out.size))
      have HV11 := Lib.hid (HV10.out.below hb)
      clear hb 
      clear lP10 lQ10 lX10 lY10 lH10
      go_wp2_with fail
      refine (C9.out w11).mono ?_
      rintro e wz ⟨rfl, rfl⟩
      by_cases h5 : W5 = 0
      · skip
        by_cases h7 : W7 = 0
        · skip
          obtain ⟨y1, y2, y3⟩ := Z3.out h5
          obtain ⟨y4, y5⟩ := Z4.out h7
          clear Z3 Z4
          subst h5 y1 y3
          subst h7 y4 y5
          have heq2 := HEQ2.out
          have hG2 := HGG2.out
          go_wp2_with (first | (refine wpList_load_rowG (by rfl) _ _ rfl w9.heap.size rfl _ H (0, 0) _ HH11.out Tryd.underlying26 rfl HHS.out ?_) | (refine wpList_load_rowG (by rfl) _ _ rfl (w.heap.size + 1) rfl _ q (0, 0) _ HQ11.out Tryd.underlying26 rfl HqS.out ?_) | fail)
          go_ret
          exact ⟨by simp [*], HBL11.out⟩
        · skip
          obtain ⟨y1, y2, y3⟩ := Z3.out h5
          clear Z3 Z4
          subst h5 y1 y3
          have heq2 := HEQ2.out
          have hG2 := HGG2.out
          go_wp2_with (first | (refine wpList_load_rowG (by rfl) _ _ rfl w9.heap.size rfl _ H (0, 0) _ HH11.out Tryd.underlying26 rfl HHS.out ?_) | (refine wpList_load_rowG (by rfl) _ _ rfl (w.heap.size + 1) rfl _ q (0, 0) _ HQ11.out Tryd.underlying26 rfl HqS.out ?_) | fail)
          go_ret
          exact ⟨by simp [*], HBL11.out⟩
      · skip
        by_cases h7 : W7 = 0
        · skip
          obtain ⟨y4, y5⟩ := Z4.out h7
          clear Z3 Z4
          subst h7 y4 y5
          go_wp2_with (first | (refine wpList_load_rowG (by rfl) _ _ rfl w9.heap.size rfl _ H (0, 0) _ HH11.out Tryd.underlying26 rfl HHS.out ?_) | (refine wpList_load_rowG (by rfl) _ _ rfl (w.heap.size + 1) rfl _ q (0, 0) _ HQ11.out Tryd.underlying26 rfl HqS.out ?_) | fail)
          go_ret
          exact ⟨by simp [*], HBL11.out⟩
        · skip
          clear Z3 Z4
          go_wp2_with (first | (refine wpList_load_rowG (by rfl) _ _ rfl w9.heap.size rfl _ H (0, 0) _ HH11.out Tryd.underlying26 rfl HHS.out ?_) | (refine wpList_load_rowG (by rfl) _ _ rfl (w.heap.size + 1) rfl _ q (0, 0) _ HQ11.out Tryd.underlying26 rfl HqS.out ?_) | fail)
          go_ret
          exact ⟨by simp [*], HBL11.out⟩


end Go.Proofs.YtlincoeldehkfaaDoor.WireBackW
