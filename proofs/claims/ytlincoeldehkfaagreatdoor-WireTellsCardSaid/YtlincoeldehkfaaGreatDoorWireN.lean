/-
  WHAT IS PROVED: the statements' own check of the messages answers true. Condition: the variables hold what 'VarsW' says.
-/
import Derived.Test.YtlincoeldehkfaaGreatDoorWireI
import Derived.Test.YtlincoeldehkfaaGreatDoorEqHash
import Derived.Laws.StructEq
namespace Go.Proofs.YtlincoeldehkfaaGreatDoor.WireN
open Go Go.RowKit Go.Shelf Go.Proofs.YtlincoeldehkfaaGreatDoor Go.Proofs.YtlincoeldehkfaaGreatDoor.OctetS Go.Proofs.YtlincoeldehkfaaGreatDoor.IdentS Go.Proofs.YtlincoeldehkfaaGreatDoor.EntS Go.Proofs.YtlincoeldehkfaaGreatDoor.WireS Go.Proofs.YtlincoeldehkfaaGreatDoor.OctG Go.Proofs.YtlincoeldehkfaaGreatDoor.OctP Go.Proofs.YtlincoeldehkfaaGreatDoor.OctQ Go.Proofs.YtlincoeldehkfaaGreatDoor.OctA Go.Proofs.YtlincoeldehkfaaGreatDoor.EventP Go.Proofs.YtlincoeldehkfaaGreatDoor.EventC Go.Proofs.YtlincoeldehkfaaGreatDoor.EntP Go.Proofs.YtlincoeldehkfaaGreatDoor.WireT Go.Proofs.YtlincoeldehkfaaGreatDoor.Steps Go.Proofs.YtlincoeldehkfaaGreatDoor.Wr Go.Proofs.YtlincoeldehkfaaGreatDoor.WireA
set_option linter.unusedVariables false
attribute [-go_sem] run_equalIn_agg
set_option linter.unusedSimpArgs false

theorem eqMs (k1 f1 t1 k2 f2 t2 : Int) (b1 b2 : ByteArray) (w : World) : (Op.equalIn 10000 24 (.agg #[.int .u8 k1, .int .i64 f1, .int .i64 t1, .string b1]) (.agg #[.int .u8 k2, .int .i64 f2, .int .i64 t2, .string b2])).run Tryz.prog w =
    .ok (k1 == k2 && (f1 == f2 && (t1 == t2 && b1.toList == b2.toList))) w := by
  have u3 : Tryz.prog.underlying 3 = some (.int .i64) := by kernel_rfl
  have u4 : Tryz.prog.underlying 22 = some (.int .u8) := by kernel_rfl
  have u9 : Tryz.prog.underlying 9 = some .string := by kernel_rfl
  have hS : Tryz.prog.underlying 24 = some (.struct (Tryz.prog.fieldsOf 24)) := by kernel_rfl
  have hF : (Tryz.prog.fieldsOf 24).toList = [⟨"Kind", 22, 0, false, "", "", 0⟩, ⟨"From", 3, 1, false, "", "", 8⟩, ⟨"To", 3, 2, false, "", "", 16⟩, ⟨"Body", 9, 3, false, "", "", 24⟩] := by kernel_rfl
  have hp : Tryz.prog.stoodInHeld 24 = false := by kernel_rfl
  rw [show (10000 : Nat) = 9999 + 1 from rfl, run_equalIn_agg w 9999 24 _ _ hS hp, hF]
  go_simp
  cases h1 : k1 == k2 <;> cases h2 : f1 == f2 <;> cases h3 : t1 == t2 <;> cases h4 : b1.toList == b2.toList <;> simp_all
theorem eqMs_self (k f t : Int) (b : ByteArray) (w : World) : (Op.equalIn 10000 24 (.agg (msA k f t b)) (.agg (msA k f t b))).run Tryz.prog w = .ok true w := by
  unfold msA
  rw [eqMs]
  simp
theorem guardMs : Go.Program.eqGuardType Tryz.prog Tryz.prog.depth 24 = false := by kernel_rfl
theorem pB_of {l : List UInt8} (h : l.length = 32) : (byV l).toArray = ShaB.pB 32 l := by
  unfold ShaB.pB
  simp [h]
theorem eqHa_self {l : List UInt8} (h : l.length = 32) (w : World) : (Op.equalIn 10000 34 (.agg (byV l).toArray) (.agg (byV l).toArray)).run Tryz.prog w = .ok true w := by
  rw [pB_of h, EqHash.eqHash, EqHash.hEq_self]
def a0 : List UInt8 := [172, 2]
def m0 : Ms := ⟨5, 1, 2, a0⟩
def s0 : List UInt8 := [4, 3, 97, 115, 107, 1, 1, 1, 2, 2, 172, 2]
def sm7 : List UInt8 := 7 :: List.replicate 31 0
def b0 : List UInt8 := [2, 32] ++ sm7 ++ [1, 12]
theorem num300 : num 300 = a0 := by decide +kernel
theorem right0 : Right m0 := why_iff.1 (by decide +kernel)
theorem bytes0 : bytesM m0 = s0 := by decide +kernel
theorem rej0 : rejOf sm7 12 = b0 := by decide +kernel
theorem sm7_len : sm7.length = 32 := rfl
theorem lit7 : (byV sm7).toArray = #[.int .u8 7, .int .u8 0, .int .u8 0, .int .u8 0, .int .u8 0, .int .u8 0, .int .u8 0, .int .u8 0, .int .u8 0, .int .u8 0, .int .u8 0, .int .u8 0, .int .u8 0, .int .u8 0, .int .u8 0, .int .u8 0, .int .u8 0, .int .u8 0, .int .u8 0, .int .u8 0, .int .u8 0, .int .u8 0, .int .u8 0, .int .u8 0, .int .u8 0, .int .u8 0, .int .u8 0, .int .u8 0, .int .u8 0, .int .u8 0, .int .u8 0, .int .u8 0] := by kernel_rfl
theorem lit0 : (byV zero32).toArray = #[.int .u8 0, .int .u8 0, .int .u8 0, .int .u8 0, .int .u8 0, .int .u8 0, .int .u8 0, .int .u8 0, .int .u8 0, .int .u8 0, .int .u8 0, .int .u8 0, .int .u8 0, .int .u8 0, .int .u8 0, .int .u8 0, .int .u8 0, .int .u8 0, .int .u8 0, .int .u8 0, .int .u8 0, .int .u8 0, .int .u8 0, .int .u8 0, .int .u8 0, .int .u8 0, .int .u8 0, .int .u8 0, .int .u8 0, .int .u8 0, .int .u8 0, .int .u8 0] := by kernel_rfl
theorem v1 (w : World) : Calls Tryz.prog 14 #[.int .i64 300] w (RB (.tuple #[.string (bsOf a0), .int .i64 0]) w) := by
  have h := WireA.Ask_ok w 300
  unfold WireA.askV at h
  rw [if_pos ⟨by omega, by omega⟩, show (300 : Int).toNat = 300 from rfl, num300] at h
  exact h
theorem ofm (k : Int) : msOf k 1 2 (bsOf a0) = ⟨k, 1, 2, a0⟩ := by unfold msOf; rw [bl_bsOf]
theorem v2 (w : World) (hv : VarsW w) : Calls Tryz.prog 6 #[.agg (msA 5 1 2 (bsOf a0))] w (RB (.tuple #[.string (bsOf s0), .int .i64 0]) w) := by
  have h := WireI.Bytes_ok w _ 5 1 2 (bsOf a0) rfl hv (by omega) (by decide)
  rw [ofm, show (⟨5, 1, 2, a0⟩ : Ms) = m0 from rfl, bytes0, why_iff.2 right0] at h
  exact h
theorem v3 (w : World) : Calls Tryz.prog 20 #[.string (bsOf s0)] w (AllPost w (partsM m0, 0)) := by
  have h := OctA.All_ok w (bsOf s0) (by decide)
  rw [bl_bsOf, ← bytes0, bytesM, if_pos (why_iff.2 right0), all_list right0.fits] at h
  rw [← bytes0, bytesM, if_pos (why_iff.2 right0)]
  exact h
theorem v4 (w : World) (hv : VarsW w) : Calls Tryz.prog 8 #[.string (bsOf s0)] w (RB (.tuple #[.agg (msA 5 1 2 (bsOf a0)), .int .i64 0]) w) := by
  have h := WireI.Parse_ok w (bsOf s0) (by decide) hv
  rw [bl_bsOf, ← bytes0, parse_bytes right0] at h
  rw [← bytes0]
  exact h
theorem v5 (w : World) : Calls Tryz.prog 12 #[.agg #[.int .u8 7, .int .u8 0, .int .u8 0, .int .u8 0, .int .u8 0, .int .u8 0, .int .u8 0, .int .u8 0, .int .u8 0, .int .u8 0, .int .u8 0, .int .u8 0, .int .u8 0, .int .u8 0, .int .u8 0, .int .u8 0, .int .u8 0, .int .u8 0, .int .u8 0, .int .u8 0, .int .u8 0, .int .u8 0, .int .u8 0, .int .u8 0, .int .u8 0, .int .u8 0, .int .u8 0, .int .u8 0, .int .u8 0, .int .u8 0, .int .u8 0, .int .u8 0], .int .i64 12] w (RB (.tuple #[.string (bsOf b0), .int .i64 0]) w) := by
  have h := WireH.Reject_ok w _ sm7 12 rfl sm7_len
  unfold WireH.rejectV at h
  rw [if_pos ⟨by omega, by omega⟩, show (12 : Int).toNat = 12 from rfl, rej0, lit7] at h
  exact h
theorem v6 (w : World) : Calls Tryz.prog 16 #[.string (bsOf b0)] w (RB (.tuple #[.agg (byV sm7).toArray, .int .i64 12, .int .i64 0]) w) := by
  have h := WireH.Rejected_ok w (bsOf b0) (by decide)
  rw [bl_bsOf, ← rej0, rejected_rej sm7_len (by omega) (by omega)] at h
  rw [← rej0]
  exact h
theorem v7 (w : World) : Calls Tryz.prog 18 #[.string (bsOf a0)] w fun e w' => e = .returned (.tuple #[.int .i64 300, .int .i64 0]) ∧ w = w' := by
  have h := WireA.Asked_ok w (bsOf a0) (by decide)
  rw [bl_bsOf, ← num300, asked_num (by omega)] at h
  rw [← num300]
  exact h
theorem v8 (w : World) (hv : VarsW w) : Calls Tryz.prog 8 #[.string (bsOf (s0 ++ [33]))] w (RB (.tuple #[.agg msZ, .int .i64 6]) w) := by
  have h := WireI.Parse_ok w (bsOf (s0 ++ [33])) (by decide) hv
  have e : parseM (s0 ++ [33]) = none := by
    unfold parseM
    exact if_neg (by decide +kernel)
  rw [bl_bsOf, e] at h
  exact h
theorem v9 (w : World) : Calls Tryz.prog 12 #[.agg #[.int .u8 0, .int .u8 0, .int .u8 0, .int .u8 0, .int .u8 0, .int .u8 0, .int .u8 0, .int .u8 0, .int .u8 0, .int .u8 0, .int .u8 0, .int .u8 0, .int .u8 0, .int .u8 0, .int .u8 0, .int .u8 0, .int .u8 0, .int .u8 0, .int .u8 0, .int .u8 0, .int .u8 0, .int .u8 0, .int .u8 0, .int .u8 0, .int .u8 0, .int .u8 0, .int .u8 0, .int .u8 0, .int .u8 0, .int .u8 0, .int .u8 0, .int .u8 0], .int .i64 0] w (RB (.tuple #[.string ⟨#[]⟩, .int .i64 1]) w) := by
  have h := WireH.Reject_ok w _ zero32 0 rfl zero32_len
  unfold WireH.rejectV at h
  rw [if_neg (by omega), lit0] at h
  exact h
theorem v10 (w : World) (hv : VarsW w) : Calls Tryz.prog 10 #[.agg (msA 1 1 2 (bsOf a0))] w (RB (.int .i64 6) w) := by
  have h := WireI.Check_ok w _ 1 1 2 (bsOf a0) rfl hv (by omega) (by decide)
  rw [ofm, show why ⟨1, 1, 2, a0⟩ = 6 by decide +kernel] at h
  exact h
theorem v11 (w : World) (hv : VarsW w) : Calls Tryz.prog 10 #[.agg #[.int .u8 0, .int .i64 0, .int .i64 0, .string ⟨#[]⟩]] w (RB (.int .i64 2) w) := by
  have h := WireI.Check_ok w _ 0 0 0 ⟨#[]⟩ rfl hv (by omega) (by decide)
  rw [show why (msOf 0 0 0 ⟨#[]⟩) = 2 by decide +kernel] at h
  exact h
/-- The variables stand where a block that is none of theirs is written. -/
theorem cell_far {w : World} {g o : Nat} {v : Value} {k j : Nat} (h : k ≠ g) : (w.setCell ⟨g, o, none⟩ v).cell? ⟨k, j, none⟩ = w.cell? ⟨k, j, none⟩ := by
  have := heap_setCell_far (w := w) (b := g) (j := o) v h
  simp only [World.cell?, this]
theorem VarsW.lt {w : World} (h : VarsW w) {g : Nat} (hg : g = 1 ∨ g = 3 ∨ g = 5 ∨ g = 6 ∨ g = 0 ∨ g = 2) : g < w.heap.size := by
  obtain ⟨_, e1, _⟩ := h.e.i.e1
  obtain ⟨_, e2, _⟩ := h.e.i.e2
  rcases hg with rfl | rfl | rfl | rfl | rfl | rfl
  · exact World.block_lt_of_cell? w _ (h.e.words 0 (by omega))
  · exact World.block_lt_of_cell? w _ h.e.i.s1
  · exact World.block_lt_of_cell? w _ e1
  · exact World.block_lt_of_cell? w _ e2
  · exact World.block_lt_of_cell? w _ (h.ww 0 (by omega))
  · exact World.block_lt_of_cell? w _ (h.hw 0 (by omega))
theorem VarsW.far {w : World} {g o : Nat} {v : Value} (h : VarsW w) (hg : ∀ k, k = 1 ∨ k = 3 ∨ k = 5 ∨ k = 6 ∨ k = 0 ∨ k = 2 → k < g) : VarsW (w.setCell ⟨g, o, none⟩ v) := by
  have f : ∀ k j, (k = 1 ∨ k = 3 ∨ k = 5 ∨ k = 6 ∨ k = 0 ∨ k = 2) → (w.setCell ⟨g, o, none⟩ v).cell? ⟨k, j, none⟩ = w.cell? ⟨k, j, none⟩ := fun k j hk => cell_far (by have := hg k hk; omega)
  refine ⟨⟨⟨?_, ?_, ?_, ?_⟩, fun k hk => ?_⟩, fun k hk => ?_, fun k hk => ?_⟩
  · rw [f _ _ (by simp)]; exact h.e.i.s1
  · rw [f _ _ (by simp)]; exact h.e.i.s2
  · rw [f _ _ (by simp)]; exact h.e.i.e1
  · rw [f _ _ (by simp)]; exact h.e.i.e2
  · rw [f _ _ (by simp)]; exact h.e.words k hk
  · rw [f _ _ (by simp)]; exact h.ww k hk
  · rw [f _ _ (by simp)]; exact h.hw k hk
set_option maxRecDepth 100000 in
set_option maxHeartbeats 4000000 in
theorem lives_ok (w : World) (hv : VarsW w) : Calls Tryz.prog 5 #[] w (RB (.bool true) w) := by
  obtain ⟨A0, hA0⟩ : ∃ x, x = bsOf a0 := ⟨_, rfl⟩
  obtain ⟨S0, hS0⟩ : ∃ x, x = bsOf s0 := ⟨_, rfl⟩
  obtain ⟨S1, hS1⟩ : ∃ x, x = bsOf (s0 ++ [33]) := ⟨_, rfl⟩
  obtain ⟨B0, hB0⟩ : ∃ x, x = bsOf b0 := ⟨_, rfl⟩
  have hcat : (S0 ++ ⟨#[33]⟩ : ByteArray) = S1 := by rw [hS0, hS1]; decide +kernel
  have hz : S0.size = 12 := by rw [hS0]; decide +kernel
  have h1 := v1
  have h2 := v2
  have h3 := v3
  have h4 := v4
  have h5 := v5
  have h6 := v6
  have h7 := v7
  have h8 := v8
  have h9 := v9
  have h10 := v10
  have h11 := v11
  rw [← hA0] at h1 h2 h4 h7 h10
  rw [← hS0] at h2 h3 h4
  rw [← hS1] at h8
  rw [← hB0] at h5 h6
  obtain ⟨M0, hM0⟩ : ∃ E, E = msA 5 1 2 A0 := ⟨_, rfl⟩
  have hM0n : M0.size = 4 := by rw [hM0]; rfl
  have HM0S : Hid ((Tryz.prog.info? 24).map (·.size) = some M0.size) := Lib.hid (by rw [hM0n]; kernel_rfl)
  have HM0N : Hid (4 = M0.size) := Lib.hid hM0n.symm
  have HM0O : Hid (M0.all (·.oneCell') = true) := Lib.hid (by rw [hM0]; simp [msA, msZ, Value.oneCell'])
  have HM0 := Lib.hid hM0
  clear hM0n
  obtain ⟨M1, hM1⟩ : ∃ E, E = msA 1 1 2 A0 := ⟨_, rfl⟩
  have hM1n : M1.size = 4 := by rw [hM1]; rfl
  have HM1S : Hid ((Tryz.prog.info? 24).map (·.size) = some M1.size) := Lib.hid (by rw [hM1n]; kernel_rfl)
  have HM1N : Hid (4 = M1.size) := Lib.hid hM1n.symm
  have HM1O : Hid (M1.all (·.oneCell') = true) := Lib.hid (by rw [hM1]; simp [msA, msZ, Value.oneCell'])
  have HM1 := Lib.hid hM1
  clear hM1n
  obtain ⟨Z, hZ⟩ : ∃ E, E = msZ := ⟨_, rfl⟩
  have hZn : Z.size = 4 := by rw [hZ]; rfl
  have HZS : Hid ((Tryz.prog.info? 24).map (·.size) = some Z.size) := Lib.hid (by rw [hZn]; kernel_rfl)
  have HZN : Hid (4 = Z.size) := Lib.hid hZn.symm
  have HZO : Hid (Z.all (·.oneCell') = true) := Lib.hid (by rw [hZ]; simp [msA, msZ, Value.oneCell'])
  have HZ := Lib.hid hZ
  clear hZn
  obtain ⟨H7, hH7⟩ : ∃ E, E = (byV sm7).toArray := ⟨_, rfl⟩
  have hH7n : H7.size = 32 := by rw [hH7]; rfl
  have HH7S : Hid ((Tryz.prog.info? 34).map (·.size) = some H7.size) := Lib.hid (by rw [hH7n]; kernel_rfl)
  have HH7N : Hid (32 = H7.size) := Lib.hid hH7n.symm
  have HH7O : Hid (H7.all (·.oneCell') = true) := Lib.hid (by rw [hH7]; simp [byV, sm7, Value.oneCell'])
  have HH7 := Lib.hid hH7
  clear hH7n
  rw [← hM0] at h2 h4
  rw [← hM1] at h10
  rw [← hZ] at h8
  rw [← hH7] at h6
  have hq : ∀ w, (Op.equalIn 10000 34 (.agg H7) (.agg #[.int .u8 7, .int .u8 0, .int .u8 0, .int .u8 0, .int .u8 0, .int .u8 0, .int .u8 0, .int .u8 0, .int .u8 0, .int .u8 0, .int .u8 0, .int .u8 0, .int .u8 0, .int .u8 0, .int .u8 0, .int .u8 0, .int .u8 0, .int .u8 0, .int .u8 0, .int .u8 0, .int .u8 0, .int .u8 0, .int .u8 0, .int .u8 0, .int .u8 0, .int .u8 0, .int .u8 0, .int .u8 0, .int .u8 0, .int .u8 0, .int .u8 0, .int .u8 0])).run Tryz.prog w = .ok true w := by
    intro w
    rw [← lit7, hH7]
    exact eqHa_self sm7_len w
  have hGH := EqHash.guardHash
  have hset : M0.setIfInBounds 0 (.int .u8 1) = M1 := by rw [hM0, hM1]; rfl
  have hm00 : M0[0]? = some (.int .u8 5) := by rw [hM0]; rfl
  have hm02 : M0[2]? = some (.int .i64 2) := by rw [hM0]; rfl
  have V1 := Lib.hid h1
  have V2 := Lib.hid h2
  have V3 := Lib.hid h3
  have V4 := Lib.hid h4
  have V5 := Lib.hid h5
  have V6 := Lib.hid h6
  have V7 := Lib.hid h7
  have V8 := Lib.hid h8
  have V9 := Lib.hid h9
  have V10 := Lib.hid h10
  have V11 := Lib.hid h11
  have Hcat := Lib.hid hcat
  have Hset := Lib.hid hset
  have Hm00 := Lib.hid hm00
  have Hm02 := Lib.hid hm02
  clear hcat hset hm00 hm02 hA0 hS0 hS1 hB0 hM0 hM1 hZ hH7 h1 h2 h3 h4 h5 h6 h7 h8 h9 h10 h11
  obtain ⟨w0, hw0⟩ : ∃ w0 : World, w0 = w := ⟨_, rfl⟩
  rw [← hw0] at hv ⊢
  have HBL0 := Lib.hid (Below.refl w0.heap.size w0)
  have HV0 := Lib.hid hv
  clear hv hw0 w
  go_enter Tryz.func5, Tryz.ntmps5
  go_wp2_with fail
  refine (V1.out w0).mono ?_
  rintro e w1 ⟨rfl, hb⟩
  have HBL1 := Lib.hid (HBL0.out.trans (hb.mono HBL0.out.size))
  have HV1 := Lib.hid (HV0.out.below hb)
  clear hb 
  go_wp2_with (first | (refine wpList_store_rowA rfl _ _ _ rfl w1.heap.size M0 rfl (by rw [HM0.out]; first | rfl | kernel_rfl) _ _ (heap_new _ _) HM0S.out (by rw [← HM0N.out]; rfl) HM0O.out ?_) | fail)
  intro u1 hu1
  have hb : Below w1.heap.size w1 u1 := by rw [hu1.out]; exact below_row ((Below.refl _ _).alloc (Nat.le_refl _) _) (Nat.le_refl _) _
  have hy : u1.heap[w1.heap.size]? = some (.cells M0 24 (0, 0)) := by rw [hu1.out]; exact setRow_at (heap_new _ _)
  clear hu1
  obtain ⟨w2, hww⟩ : ∃ w', w' = u1 := ⟨_, rfl⟩
  rw [← hww] at hb hy ⊢
  clear hww
  have Hyn := Lib.hid hy
  clear hy
  have HBL2 := Lib.hid (HBL1.out.trans (hb.mono HBL1.out.size))
  have HV2 := Lib.hid (HV1.out.below hb)
  clear hb 
  have HG2 := Lib.hid Hyn.out
  have hg0 := Lib.hid HBL1.out.size
  have hvg : Hid (∀ g, g = 1 ∨ g = 3 ∨ g = 5 ∨ g = 6 ∨ g = 0 ∨ g = 2 → g < w1.heap.size) := Lib.hid (fun g h => VarsW.lt HV1.out h)
  have lG2 := lt_row HG2.out
  clear Hyn
  go_wp2_with (first | (refine wpList_load_row rfl _ _ rfl w1.heap.size rfl _ M0 (0, 0) _ HG2.out Tryz.underlying24 rfl HM0S.out ?_) | fail)
  refine (V2.out w2 HV2.out).mono ?_
  rintro e w3 ⟨rfl, hb⟩
  have HG3 := Lib.hid ((hb.block _ lG2).trans HG2.out)
  have lG3 := lt_row HG3.out
  have HBL3 := Lib.hid (HBL2.out.trans (hb.mono HBL2.out.size))
  have HV3 := Lib.hid (HV2.out.below hb)
  clear hb 
  clear lG2
  go_wp2_with fail
  refine (V3.out w3).mono ?_
  rintro e w4 ⟨v, rfl, hl, hb⟩
  obtain ⟨B, cap, rfl, hB, hc⟩ := list_n 4 hl rfl (by omega)
  clear hl
  have hc0 : w4.cell? ⟨B, 0, none⟩ = some (.string ⟨#[97, 115, 107]⟩) := hc 0 _ rfl
  have hBG : w1.heap.size < B := by have := lG3; omega
  clear hc
  have HG4 := Lib.hid ((hb.block _ lG3).trans HG3.out)
  have lG4 := lt_row HG4.out
  have HBL4 := Lib.hid (HBL3.out.trans (hb.mono HBL3.out.size))
  have HV4 := Lib.hid (HV3.out.below hb)
  clear hb 
  clear lG3
  have hc0x4 := hc0
  clear hc0
  go_wp2_with fail
  refine (V4.out w4 HV4.out).mono ?_
  rintro e w5 ⟨rfl, hb⟩
  have HG5 := Lib.hid ((hb.block _ lG4).trans HG4.out)
  have lG5 := lt_row HG5.out
  have HBL5 := Lib.hid (HBL4.out.trans (hb.mono HBL4.out.size))
  have HV5 := Lib.hid (HV4.out.below hb)
  have hc0x5 := below_cell hb hc0x4
  clear hb hc0x4
  clear lG4
  have hgX8 : w1.heap.size < w5.heap.size := lG5
  go_wp2_with (first | (refine wpList_store_rowA rfl _ _ _ rfl w5.heap.size M0 rfl rfl _ _ (heap_new _ _) HM0S.out (by rw [← HM0N.out]; rfl) HM0O.out ?_) | fail)
  intro u1 hu1
  have hb : Below w5.heap.size w5 u1 := by rw [hu1.out]; exact below_row ((Below.refl _ _).alloc (Nat.le_refl _) _) (Nat.le_refl _) _
  have hy : u1.heap[w5.heap.size]? = some (.cells M0 24 (0, 0)) := by rw [hu1.out]; exact setRow_at (heap_new _ _)
  clear hu1
  obtain ⟨w6, hww⟩ : ∃ w', w' = u1 := ⟨_, rfl⟩
  rw [← hww] at hb hy ⊢
  clear hww
  have Hyn := Lib.hid hy
  clear hy
  have HG6 := Lib.hid ((hb.block _ lG5).trans HG5.out)
  have lG6 := lt_row HG6.out
  have HBL6 := Lib.hid (HBL5.out.trans (hb.mono HBL5.out.size))
  have HV6 := Lib.hid (HV5.out.below hb)
  have hc0x6 := below_cell hb hc0x5
  clear hb hc0x5
  clear lG5
  have HX6 := Lib.hid Hyn.out
  have lX6 := lt_row HX6.out
  clear Hyn
  skip
  go_wp2_with fail
  refine (V5.out w6).mono ?_
  rintro e w7 ⟨rfl, hb⟩
  have HG7 := Lib.hid ((hb.block _ lG6).trans HG6.out)
  have lG7 := lt_row HG7.out
  have HX7 := Lib.hid ((hb.block _ lX6).trans HX6.out)
  have lX7 := lt_row HX7.out
  have HBL7 := Lib.hid (HBL6.out.trans (hb.mono HBL6.out.size))
  have HV7 := Lib.hid (HV6.out.below hb)
  have hc0x7 := below_cell hb hc0x6
  clear hb hc0x6
  clear lG6 lX6
  go_wp2_with fail
  refine (V6.out w7).mono ?_
  rintro e w8 ⟨rfl, hb⟩
  have HG8 := Lib.hid ((hb.block _ lG7).trans HG7.out)
  have lG8 := lt_row HG8.out
  have HX8 := Lib.hid ((hb.block _ lX7).trans HX7.out)
  have lX8 := lt_row HX8.out
  have HBL8 := Lib.hid (HBL7.out.trans (hb.mono HBL7.out.size))
  have HV8 := Lib.hid (HV7.out.below hb)
  have hc0x8 := below_cell hb hc0x7
  clear hb hc0x7
  clear lG7 lX7
  have hgX12 : w1.heap.size < w8.heap.size := lG8
  go_wp2_with (first | (refine wpList_store_rowA rfl _ _ _ rfl w8.heap.size H7 rfl rfl _ _ (heap_new _ _) HH7S.out (by rw [← HH7N.out]; rfl) HH7O.out ?_) | fail)
  intro u1 hu1
  have hb : Below w8.heap.size w8 u1 := by rw [hu1.out]; exact below_row ((Below.refl _ _).alloc (Nat.le_refl _) _) (Nat.le_refl _) _
  have hy : u1.heap[w8.heap.size]? = some (.cells H7 34 (0, 0)) := by rw [hu1.out]; exact setRow_at (heap_new _ _)
  clear hu1
  obtain ⟨w9, hww⟩ : ∃ w', w' = u1 := ⟨_, rfl⟩
  rw [← hww] at hb hy ⊢
  clear hww
  have Hyn := Lib.hid hy
  clear hy
  have HG9 := Lib.hid ((hb.block _ lG8).trans HG8.out)
  have lG9 := lt_row HG9.out
  have HX9 := Lib.hid ((hb.block _ lX8).trans HX8.out)
  have lX9 := lt_row HX9.out
  have HBL9 := Lib.hid (HBL8.out.trans (hb.mono HBL8.out.size))
  have HV9 := Lib.hid (HV8.out.below hb)
  have hc0x9 := below_cell hb hc0x8
  clear hb hc0x8
  clear lG8 lX8
  have HH9 := Lib.hid Hyn.out
  have lH9 := lt_row HH9.out
  clear Hyn
  go_wp2_with fail
  refine (V7.out w9).mono ?_
  rintro e wz ⟨rfl, rfl⟩
  go_wp2_with fail
  rw [Hcat.out]
  refine (V8.out w9 HV9.out).mono ?_
  rintro e w10 ⟨rfl, hb⟩
  have HG10 := Lib.hid ((hb.block _ lG9).trans HG9.out)
  have lG10 := lt_row HG10.out
  have HX10 := Lib.hid ((hb.block _ lX9).trans HX9.out)
  have lX10 := lt_row HX10.out
  have HH10 := Lib.hid ((hb.block _ lH9).trans HH9.out)
  have lH10 := lt_row HH10.out
  have HBL10 := Lib.hid (HBL9.out.trans (hb.mono HBL9.out.size))
  have HV10 := Lib.hid (HV9.out.below hb)
  have hc0x10 := below_cell hb hc0x9
  clear hb hc0x9
  clear lG9 lX9 lH9
  go_wp2_with (first | (refine wpList_store_rowA rfl _ _ _ rfl w10.heap.size Z rfl rfl _ _ (heap_new _ _) HZS.out (by rw [← HZN.out]; rfl) HZO.out ?_) | fail)
  intro u1 hu1
  have hb : Below w10.heap.size w10 u1 := by rw [hu1.out]; exact below_row ((Below.refl _ _).alloc (Nat.le_refl _) _) (Nat.le_refl _) _
  have hy : u1.heap[w10.heap.size]? = some (.cells Z 24 (0, 0)) := by rw [hu1.out]; exact setRow_at (heap_new _ _)
  clear hu1
  obtain ⟨w11, hww⟩ : ∃ w', w' = u1 := ⟨_, rfl⟩
  rw [← hww] at hb hy ⊢
  clear hww
  have Hyn := Lib.hid hy
  clear hy
  have HG11 := Lib.hid ((hb.block _ lG10).trans HG10.out)
  have lG11 := lt_row HG11.out
  have HX11 := Lib.hid ((hb.block _ lX10).trans HX10.out)
  have lX11 := lt_row HX11.out
  have HH11 := Lib.hid ((hb.block _ lH10).trans HH10.out)
  have lH11 := lt_row HH11.out
  have HBL11 := Lib.hid (HBL10.out.trans (hb.mono HBL10.out.size))
  have HV11 := Lib.hid (HV10.out.below hb)
  have hc0x11 := below_cell hb hc0x10
  clear hb hc0x10
  clear lG10 lX10 lH10
  have HQ11 := Lib.hid Hyn.out
  have lQ11 := lt_row HQ11.out
  clear Hyn
  go_wp2_with fail
  refine (V9.out w11).mono ?_
  rintro e w12 ⟨rfl, hb⟩
  have HG12 := Lib.hid ((hb.block _ lG11).trans HG11.out)
  have lG12 := lt_row HG12.out
  have HX12 := Lib.hid ((hb.block _ lX11).trans HX11.out)
  have lX12 := lt_row HX12.out
  have HH12 := Lib.hid ((hb.block _ lH11).trans HH11.out)
  have lH12 := lt_row HH12.out
  have HQ12 := Lib.hid ((hb.block _ lQ11).trans HQ11.out)
  have lQ12 := lt_row HQ12.out
  have HBL12 := Lib.hid (HBL11.out.trans (hb.mono HBL11.out.size))
  have HV12 := Lib.hid (HV11.out.below hb)
  have hc0x12 := below_cell hb hc0x11
  clear hb hc0x11
  clear lG11 lX11 lH11 lQ11
  have hne8 : ¬ w5.heap.size = w1.heap.size := by have := hgX8; omega
  have hneB : ¬ B = w1.heap.size := by omega
  have hne12 : ¬ w8.heap.size = w1.heap.size := by have := hgX12; omega
  obtain ⟨cy, fy⟩ := row_facts HG12.out
  have kG := (cy 0).trans Hm00.out
  have fG := fy 0
  obtain ⟨cx, fx⟩ := row_facts HX12.out
  have kX0 := (cx 0).trans Hm00.out
  have kX2 := (cx 2).trans Hm02.out
  clear cy fy cx fx
  have hg5 : (w12.setCell ⟨w1.heap.size, 0, none⟩ (.int .u8 1)).heap[w1.heap.size]? = some (.cells M1 24 (0, 0)) := by rw [← Hset.out]; exact heap_setCell_same HG12.out _
  have hh5 : (w12.setCell ⟨w1.heap.size, 0, none⟩ (.int .u8 1)).heap[w8.heap.size]? = some (.cells H7 34 (0, 0)) := by rw [heap_setCell_far _ hne12]; exact HH12.out
  have hbl5 : Below w0.heap.size w0 (w12.setCell ⟨w1.heap.size, 0, none⟩ (.int .u8 1)) := HBL12.out.setCell (p := ⟨w1.heap.size, 0, none⟩) (by show w0.heap.size ≤ w1.heap.size; exact hg0.out) _
  have hv5 : VarsW (w12.setCell ⟨w1.heap.size, 0, none⟩ (.int .u8 1)) := VarsW.far HV12.out (by exact hvg.out)
  have HG5 := Lib.hid hg5
  have HH5 := Lib.hid hh5
  have HBL5 := Lib.hid hbl5
  have HV5 := Lib.hid hv5
  clear hg5 hh5 hbl5 hv5
  go_wp2_with (first | (refine wpList_load_rowG (by rfl) _ _ rfl w1.heap.size rfl _ M1 (0, 0) _ HG5.out Tryz.underlying24 rfl HM1S.out ?_) | (refine wpList_load_rowG (by rfl) _ _ rfl w8.heap.size rfl _ H7 (0, 0) _ HH5.out Tryz.underlying34 rfl HH7S.out ?_) | fail)
  refine (V10.out _ HV5.out).mono ?_
  rintro e wa ⟨rfl, hb⟩
  have HVa := Lib.hid (HV5.out.below hb)
  have HBa := Lib.hid (HBL5.out.trans (hb.mono HBL5.out.size))
  clear hb
  go_wp2_with fail
  refine (V11.out wa HVa.out).mono ?_
  rintro e wb ⟨rfl, hb⟩
  have HBb := Lib.hid (HBa.out.trans (hb.mono HBa.out.size))
  clear hb
  go_wp2
  go_ret
  exact ⟨rfl, HBb.out⟩


end Go.Proofs.YtlincoeldehkfaaGreatDoor.WireN
