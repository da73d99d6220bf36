/-
  WHAT IS PROVED: contracts and plain laws. Condition: each names its own.
-/
import Derived.Test.YtceiajepcokacaaGreatDoorS0
import Derived.Test.YtceiajepcokacaaGreatDoorZHF11
set_option linter.unusedVariables false
set_option linter.unusedSimpArgs false
set_option maxRecDepth 100000
set_option maxHeartbeats 4000000
namespace Go.Proofs.YtceiajepcokacaaGreatDoor.WireB
open Go.Proofs.Tryz
open Go Go.RowKit Go.Shelf OctetS IdentS EntS WireS OctG OctP OctQ OctA IdentP IdentR EventP EventC EntP WireT Steps Wr WireA
theorem DY (w : World) (s : ByteArray) (hs : s.size ≤ 140737488351232) (hv : Am w) {l : List (List UInt8)} {y : Int} (ha : all (bl s) = (l, y)) (hbad : y ≠ 0 ∨ (y = 0 ∧ l.length ≠ 6)) :
 Calls Tryz.prog 26 #[.string s] w (RB (entV (WireS.read (bl s))) w) := by
 have hA := fun w => OctA.Ca w s (by unfold maxLen; omega)
 unfold Bt at hA
 rw [ha] at hA
 have HALL := lh hA
 clear hA
 rw [read_bad ha (by omega)]
 show Calls _ _ _ w (RB (.tuple #[.agg entZ, .int .i64 6]) w)
 obtain ⟨Z, hZ⟩ := nXe (entZ)
 have HLIT : Hid (zq1 Z) := lh (by rw [hZ]; unfold zq1; kernel_rfl)
 have HZN : Hid (Z.size = 37) := lh (by rw [hZ]; kernel_rfl)
 have HZS : Hid ((Tryz.prog.info? 81).map (·.size) = some Z.size) := lh (by rw [hZ]; kernel_rfl)
 have HZO : Hid (Z.all (·.oneCell') = true) := lh (by rw [hZ]; exact Ba _ _ _ _ _ _)
 rw [← hZ]
 obtain ⟨w0, hw0⟩ := nXe (w.alloc (.cells Z 81))
 have hb0 : Below w.heap.size w w0 := by rw [hw0]; exact bAx
 have HX0 : Hid (w0.heap[w.heap.size]? = some (.cells Z 81 (0, 0))) := lh (by rw [hw0]; exact AL _ _)
 have lX0 := AJ HX0.out
 obtain ⟨HBL0, HW0, HV0⟩ := l3h hb0 hw0 (hv.below hb0)
 clear hv
 clear hw0 hb0 hZ
 have hcase : (y != 0) = true ∨ (y = 0 ∧ ((l.length : Int) != 6) = true) := by
  rcases hbad with h | ⟨h0, h⟩
  ·exact .inl (by simpa using h)
  ·exact .inr ⟨h0, by simp; omega⟩
 clear hbad ha
 rcases hcase with hy | ⟨rfl, hy⟩
 all_goals
  go_enter func26, ntmps26
  go_wp2_with fail
  rw [HLIT.out, ← HW0.out]
  refine (HALL.out w0).mono ?_
  rintro e w1 ⟨v, rfl, hl, hb⟩
  obtain ⟨av, cap, rfl, _, _⟩ := (Sl.ofOwn hl).form
  clear hl
  have HX1 := lh ((hb.block _ lX0).trans HX0.out)
  have lX1 := AJ HX1.out
  have HBL1 := tbB HBL0 hb
  have HV1 := lh (HV0.out.below hb)
  clear hb 
  clear lX0
  go_wp2_with (first | (refine AC rfl _ _ _ rfl w.heap.size Z rfl (by rw [← HLIT.out]; rfl) _ _ HX1.out HZS.out rfl HZO.out ?_) | fail)
  intro wf hwf
  go_wp2
  refine bodyPost_ret (v := .tuple #[.agg Z, .int .i64 6]) (AU rfl _ _ w.heap.size 81 Z (0, 0) _ rfl (by rw [hwf.out]; exact AR HX1.out) underlying81 rfl HZS.out rfl) rfl ⟨rfl, by rw [hwf.out]; exact AQ HBL1.out nR _⟩
theorem EB (w : World) (s : ByteArray) (hs : s.size ≤ 140737488351232) (hv : Am w) {k r a b p v : List UInt8} (ha : all (bl s) = ([k, r, a, b, p, v], 0)) (hm : k ≠ EntS.mark) :
 Calls Tryz.prog 26 #[.string s] w (RB (entV (WireS.read (bl s))) w) := by
 have hA := fun w => OctA.Ca w s (by unfold maxLen; omega)
 unfold Bt at hA
 rw [ha] at hA
 have HALL := lh hA
 clear hA
 rw [read_mark ha hm]
 show Calls _ _ _ w (RB (.tuple #[.agg entZ, .int .i64 6]) w)
 obtain ⟨K, hK⟩ := nXe (bsOf k)
 have bK : bl K = k := by rw [hK, AV]
 have zK : K.size ≤ 8192 := by rw [hK]; exact Aa ha _ (by simp)
 have HK := lh hK
 have hkk : (K.toList == [101, 110, 116, 114, 121]) = false := by
  have h : (K.toList == (ByteArray.mk #[101, 110, 116, 114, 121]).toList) = false := ET (fun h => hm (by rw [← bK, h]; rfl))
  rw [BV (ByteArray.mk #[101, 110, 116, 114, 121])] at h
  exact h
 obtain ⟨Z, hZ⟩ := nXe (entZ)
 have HLIT : Hid (zq1 Z) := lh (by rw [hZ]; unfold zq1; kernel_rfl)
 have HZN : Hid (Z.size = 37) := lh (by rw [hZ]; kernel_rfl)
 have HZS : Hid ((Tryz.prog.info? 81).map (·.size) = some Z.size) := lh (by rw [hZ]; kernel_rfl)
 have HZO : Hid (Z.all (·.oneCell') = true) := lh (by rw [hZ]; exact Ba _ _ _ _ _ _)
 rw [← hZ]
 obtain ⟨w0, hw0⟩ := nXe (w.alloc (.cells Z 81))
 have hb0 : Below w.heap.size w w0 := by rw [hw0]; exact bAx
 have HX0 : Hid (w0.heap[w.heap.size]? = some (.cells Z 81 (0, 0))) := lh (by rw [hw0]; exact AL _ _)
 have lX0 := AJ HX0.out
 obtain ⟨HBL0, HW0, HV0⟩ := l3h hb0 hw0 (hv.below hb0)
 clear hv
 clear hw0 hb0 hZ
 clear hm ha hK bK
 go_enter func26, ntmps26
 go_wp2_with fail
 rw [HLIT.out, ← HW0.out]
 refine (HALL.out w0).mono ?_
 rintro e w1 ⟨v, rfl, hl, hb⟩
 obtain ⟨B, cap, rfl, hB, hc⟩ := Dc 6 hl rfl (by omega)
 clear hl
 have hc0_1 : w1.cell? ⟨B, 0, none⟩ = some (.string K) := by rw [HK.out]; exact hc 0 _ rfl
 have hBX : ¬ w.heap.size = B := by omega
 clear hc hB
 have HX1 := lh ((hb.block _ lX0).trans HX0.out)
 have lX1 := AJ HX1.out
 have HBL1 := tbB HBL0 hb
 have HV1 := lh (HV0.out.below hb)
 clear hb 
 clear lX0
 have hc0x1 := hc0_1
 clear hc0_1
 go_wp2_with (first | (refine AC rfl _ _ _ rfl w.heap.size Z rfl (by rw [← HLIT.out]; rfl) _ _ HX1.out HZS.out rfl HZO.out ?_) | fail)
 intro wf hwf
 go_wp2
 refine bodyPost_ret (v := .tuple #[.agg Z, .int .i64 6]) (AU rfl _ _ w.heap.size 81 Z (0, 0) _ rfl (by rw [hwf.out]; exact AR HX1.out) underlying81 rfl HZS.out rfl) rfl ⟨rfl, by rw [hwf.out]; exact AQ HBL1.out nR _⟩
theorem Gq (w : World) (s : ByteArray) (hs : s.size ≤ 140737488351232) (hv : Am w) {r a b p v : List UInt8} (ha : all (bl s) = ([EntS.mark, r, a, b, p, v], 0)) (h3 : p.length < 32) :
 Calls Tryz.prog 26 #[.string s] w (RB (entV (WireS.read (bl s))) w) := by
 have hA := fun w => OctA.Ca w s (by unfold maxLen; omega)
 unfold Bt at hA
 rw [ha] at hA
 have HALL := lh hA
 clear hA
 rw [Fp ha]
 obtain ⟨K, hK⟩ := nXe (bsOf EntS.mark)
 have bK : bl K = EntS.mark := by rw [hK, AV]
 have zK : K.size ≤ 8192 := by rw [hK]; exact Aa ha _ (by simp)
 have HK := lh hK
 obtain ⟨R, hR⟩ := nXe (bsOf r)
 have bR : bl R = r := by rw [hR, AV]
 have zR : R.size ≤ 8192 := by rw [hR]; exact Aa ha _ (by simp)
 have HR := lh hR
 obtain ⟨A, hA⟩ := nXe (bsOf a)
 have bA : bl A = a := by rw [hA, AV]
 have zA : A.size ≤ 8192 := by rw [hA]; exact Aa ha _ (by simp)
 have HA := lh hA
 obtain ⟨D, hD⟩ := nXe (bsOf b)
 have bD : bl D = b := by rw [hD, AV]
 have zD : D.size ≤ 8192 := by rw [hD]; exact Aa ha _ (by simp)
 have HD := lh hD
 obtain ⟨P, hP⟩ := nXe (bsOf p)
 have bP : bl P = p := by rw [hP, AV]
 have zP : P.size ≤ 8192 := by rw [hP]; exact Aa ha _ (by simp)
 have HP := lh hP
 obtain ⟨V, hV⟩ := nXe (bsOf v)
 have bV : bl V = v := by rw [hV, AV]
 have zV : V.size ≤ 8192 := by rw [hV]; exact Aa ha _ (by simp)
 have HV := lh hV
 have hkk : (K.toList == [101, 110, 116, 114, 121]) = true := by rw [hK, BV, AV]; rfl
 have zP2 : P.size = p.length := by rw [hP, AY]
 obtain ⟨x, hx⟩ := nXe (M3 4096 a)
 obtain ⟨y, hy⟩ := nXe (M3 4096 b)
 have hN1 : ∀ w, Calls Tryz.prog 49 #[.string A] w fun e w' => e = .returned (.int .i64 x) ∧ w = w' := by
  intro w
  have := E8 w A (by unfold maxLen; omega)
  rw [bA, ← hx] at this
  exact this
 have hN2 : ∀ w, Calls Tryz.prog 49 #[.string D] w fun e w' => e = .returned (.int .i64 y) ∧ w = w' := by
  intro w
  have := E8 w D (by unfold maxLen; omega)
  rw [bD, ← hy] at this
  exact this
 rw [← hx, ← hy]
 obtain ⟨HN1, HN2⟩ := l2h hN1 hN2
 clear hN1 hN2
 rw [if_neg (fun h => by omega)]
 show Calls _ _ _ w (RB (.tuple #[.agg entZ, .int .i64 6]) w)
 obtain ⟨Z, hZ⟩ := nXe (entZ)
 have HLIT : Hid (zq1 Z) := lh (by rw [hZ]; unfold zq1; kernel_rfl)
 have HZN : Hid (Z.size = 37) := lh (by rw [hZ]; kernel_rfl)
 have HZS : Hid ((Tryz.prog.info? 81).map (·.size) = some Z.size) := lh (by rw [hZ]; kernel_rfl)
 have HZO : Hid (Z.all (·.oneCell') = true) := lh (by rw [hZ]; exact Ba _ _ _ _ _ _)
 rw [← hZ]
 obtain ⟨w0, hw0⟩ := nXe (w.alloc (.cells Z 81))
 have hb0 : Below w.heap.size w w0 := by rw [hw0]; exact bAx
 have HX0 : Hid (w0.heap[w.heap.size]? = some (.cells Z 81 (0, 0))) := lh (by rw [hw0]; exact AL _ _)
 have lX0 := AJ HX0.out
 obtain ⟨HBL0, HW0, HV0⟩ := l3h hb0 hw0 (hv.below hb0)
 clear hv
 clear hw0 hb0 hZ
 obtain ⟨E0, hE0⟩ := nXe (entA R x y Cg V ⟨#[]⟩)
 have hE0n : E0.size = 37 := by rw [hE0]; exact Dm (by first | rfl | assumption)
 have HE0S : Hid ((Tryz.prog.info? 81).map (·.size) = some E0.size) := lh (by rw [hE0n, ← HZN.out]; exact HZS.out)
 have HE0Z : Hid (Z.size = E0.size) := lh (by rw [hE0n, HZN.out])
 have HE0N : Hid (37 = E0.size) := lh hE0n.symm
 have HE0O : Hid (E0.all (·.oneCell') = true) := lh (by rw [hE0]; exact Ba _ _ _ _ _ _)
 have HE0 := lh hE0
 clear hE0n
 have hPn : ((P.size : Int) != 32) = true := by simp; omega
 have hPg : (P.size : Int) < 32 := by omega
 have hPm : P.size < 32 := by omega
 clear ha hx hy hK hR hA hD hP hV bK bR bA bD bP bV zP2 h3 hE0 
 go_enter func26, ntmps26
 go_wp2_with fail
 rw [HLIT.out, ← HW0.out]
 refine (HALL.out w0).mono ?_
 rintro e w1 ⟨v, rfl, hl, hb⟩
 obtain ⟨B, cap, rfl, hB, hc⟩ := Dc 6 hl rfl (by omega)
 clear hl
 have hc0_1 : w1.cell? ⟨B, 0, none⟩ = some (.string K) := by rw [HK.out]; exact hc 0 _ rfl
 have hc1_1 : w1.cell? ⟨B, 1, none⟩ = some (.string R) := by rw [HR.out]; exact hc 1 _ rfl
 have hc2_1 : w1.cell? ⟨B, 2, none⟩ = some (.string A) := by rw [HA.out]; exact hc 2 _ rfl
 have hc3_1 : w1.cell? ⟨B, 3, none⟩ = some (.string D) := by rw [HD.out]; exact hc 3 _ rfl
 have hc4_1 : w1.cell? ⟨B, 4, none⟩ = some (.string P) := by rw [HP.out]; exact hc 4 _ rfl
 have hc5_1 : w1.cell? ⟨B, 5, none⟩ = some (.string V) := by rw [HV.out]; exact hc 5 _ rfl
 have hBX : ¬ w.heap.size = B := by omega
 clear hc hB
 have HX1 := lh ((hb.block _ lX0).trans HX0.out)
 have lX1 := AJ HX1.out
 have HBL1 := tbB HBL0 hb
 have HV1 := lh (HV0.out.below hb)
 clear hb 
 clear lX0
 have hc0x1 := hc0_1
 clear hc0_1
 have hc1x1 := hc1_1
 clear hc1_1
 have hc2x1 := hc2_1
 clear hc2_1
 have hc3x1 := hc3_1
 clear hc3_1
 have hc4x1 := hc4_1
 clear hc4_1
 have hc5x1 := hc5_1
 clear hc5_1
 go_wp2_with fail
 refine wp_region_noPanic ?_
 refine Wr.BI (S := (fun W => W.cell? ⟨B, 1, none⟩ = some (.string R) ∧ W.cell? ⟨B, 2, none⟩ = some (.string A) ∧ W.cell? ⟨B, 3, none⟩ = some (.string D) ∧ W.cell? ⟨B, 5, none⟩ = some (.string V))) (K := []) (by kernel_rfl) ?_
 change Wr.Ar _ _ _ _ _ _ _ _ _ (World.drew w1)
 have hBL0 : Below w1.heap.size w1 (World.drew w1) := Bl.drew (Below.refl _ _)
 have hS0 : (World.drew w1).cell? ⟨B, 1, none⟩ = some (.string R) ∧ (World.drew w1).cell? ⟨B, 2, none⟩ = some (.string A) ∧ (World.drew w1).cell? ⟨B, 3, none⟩ = some (.string D) ∧ (World.drew w1).cell? ⟨B, 5, none⟩ = some (.string V) := ⟨AB hBL0 hc1x1, AB hBL0 hc2x1, AB hBL0 hc3x1, AB hBL0 hc5x1⟩
 refine Wr.tkI 0 ?_ ?_ hS0 ?_
 rotate_left
 ·intro wq hSw
  obtain ⟨q0, q1, q2, q3⟩ := hSw
  go_simp
  rfl
 simp only [sq]
 refine Wr.tkI 1 ?_ ?_ hS0 ?_
 rotate_left
 ·intro wq hSw
  obtain ⟨q0, q1, q2, q3⟩ := hSw
  go_simp
  rfl
 simp only [sq]
 refine Wr.tkI 2 ?_ ?_ hS0 ?_
 rotate_left
 ·intro wq hSw
  obtain ⟨q0, q1, q2, q3⟩ := hSw
  go_simp
  rfl
 simp only [sq]
 refine Wr.tkI 3 ?_ ?_ hS0 ?_
 rotate_left
 ·intro wq hSw
  obtain ⟨q0, q1, q2, q3⟩ := hSw
  go_simp
  rfl
 simp only [sq]
 refine Wr.tkI 4 ?_ ?_ hS0 ?_
 rotate_left
 ·intro wq hSw
  obtain ⟨q0, q1, q2, q3⟩ := hSw
  go_simp
  rfl
 simp only [sq]
 refine Wr.tkI 5 ?_ ?_ hS0 ?_
 rotate_left
 ·intro wq hSw
  obtain ⟨q0, q1, q2, q3⟩ := hSw
  go_simp
  rfl
 simp only [sq]
 refine WrC.Bh (i := 6) (.tmp 31) (.string A) (v := .int .i64 x) rfl (by kernel_rfl) (fun _ _ _ h => h) (by simp [undef]) (by rfl) (by rfl) ?_ hS0 ?_
 ·intro a' wq hx' hSw
  refine ⟨_, _, ?_, HN1.out wq⟩
  go_simp
  first | done | rfl | exact ⟨⟨rfl, rfl⟩, rfl⟩ | exact ⟨rfl, rfl⟩ | exact hx' | (simp [go_sem] at hx'; exact hx')
 simp only [sq]
 refine Wr.tkI 7 ?_ ?_ hS0 ?_
 rotate_left
 ·intro wq hSw
  obtain ⟨q0, q1, q2, q3⟩ := hSw
  go_simp
  rfl
 simp only [sq]
 refine Wr.tkI 8 ?_ ?_ hS0 ?_
 rotate_left
 ·intro wq hSw
  obtain ⟨q0, q1, q2, q3⟩ := hSw
  go_simp
  rfl
 simp only [sq]
 refine Wr.tkI 9 ?_ ?_ hS0 ?_
 rotate_left
 ·intro wq hSw
  obtain ⟨q0, q1, q2, q3⟩ := hSw
  go_simp
  rfl
 simp only [sq]
 refine WrC.Bh (i := 10) (.tmp 35) (.string D) (v := .int .i64 y) rfl (by kernel_rfl) (fun _ _ _ h => h) (by simp [undef]) (by rfl) (by rfl) ?_ hS0 ?_
 ·intro a' wq hx' hSw
  refine ⟨_, _, ?_, HN2.out wq⟩
  go_simp
  first | done | rfl | exact ⟨⟨rfl, rfl⟩, rfl⟩ | exact ⟨rfl, rfl⟩ | exact hx' | (simp [go_sem] at hx'; exact hx')
 simp only [sq]
 refine Wr.tkI 11 ?_ ?_ hS0 ?_
 rotate_left
 ·intro wq hSw
  obtain ⟨q0, q1, q2, q3⟩ := hSw
  go_simp
  rfl
 simp only [sq]
 refine Wr.tkI 12 ?_ ?_ hS0 ?_
 rotate_left
 ·intro wq hSw
  obtain ⟨q0, q1, q2, q3⟩ := hSw
  go_simp
  rfl
 simp only [sq]
 refine Wr.tkI 13 ?_ ?_ hS0 ?_
 rotate_left
 ·intro wq hSw
  obtain ⟨q0, q1, q2, q3⟩ := hSw
  go_simp
  rfl
 simp only [sq]
 refine Wr.Ay (i := 14) (v := .agg E0) rfl (by kernel_rfl) (fun _ _ _ h => h) (WrC.Cb _ _ rfl (by rfl) E0 (by rw [HE0.out]; kernel_rfl)) hS0 ?_
 simp only [sq]
 refine Wr.Ab (i := 15) (by kernel_rfl) ?_
 refine Ap rfl (by rfl) (w' := (World.drew w1).alloc (.cells zl1 81)) (v := .pointer (some ⟨w1.heap.size, 0, none⟩)) (by go_simp; first | done | rfl) ?_
 obtain ⟨u1, hw_u1⟩ := nXe ((World.drew w1).alloc (.cells zl1 81))
 rw [← hw_u1]
 have hb_u1 : Below (World.drew w1).heap.size (World.drew w1) u1 := by rw [hw_u1]; exact bAx
 have hn_u1 : u1.heap[(World.drew w1).heap.size]? = some (.cells zl1 81 (0, 0)) := by rw [hw_u1]; exact Ad _ rfl
 have hBL1 : Below w1.heap.size w1 u1 := hBL0.trans (hb_u1.mono hBL0.size)
 have hS1 : u1.cell? ⟨B, 1, none⟩ = some (.string R) ∧ u1.cell? ⟨B, 2, none⟩ = some (.string A) ∧ u1.cell? ⟨B, 3, none⟩ = some (.string D) ∧ u1.cell? ⟨B, 5, none⟩ = some (.string V) := ⟨AB hBL1 hc1x1, AB hBL1 hc2x1, AB hBL1 hc3x1, AB hBL1 hc5x1⟩
 clear hw_u1
 refine ⟨hS1, ?_⟩
 simp only [sq]
 refine Wr.Ab (i := 16) (by kernel_rfl) ?_
 refine WrC.BM rfl (by rfl) _ _ _ rfl w1.heap.size E0 rfl rfl _ _ hn_u1 HE0S.out HE0N.out HE0O.out ?_
 intro u2 hw_u2
 have hBL2 : Below w1.heap.size w1 u2 := by rw [hw_u2.out]; exact AQ hBL1 nR _
 have hy_u2 : u2.heap[w1.heap.size]? = some (.cells E0 81 (0, 0)) := by rw [hw_u2.out]; exact AR hn_u1
 have hS2 : u2.cell? ⟨B, 1, none⟩ = some (.string R) ∧ u2.cell? ⟨B, 2, none⟩ = some (.string A) ∧ u2.cell? ⟨B, 3, none⟩ = some (.string D) ∧ u2.cell? ⟨B, 5, none⟩ = some (.string V) := ⟨AB hBL2 hc1x1, AB hBL2 hc2x1, AB hBL2 hc3x1, AB hBL2 hc5x1⟩
 clear hw_u2
 refine ⟨hS2, ?_⟩
 simp only [sq]
 refine Wr.Ag (by kernel_rfl) (NoPanic.normal ?_) _
 obtain ⟨HBU, HYU⟩ := l2h hBL2 hy_u2
 have lYU := AJ HYU.out
 clear hBL0 hS0 hBL1 hS1 hBL2 hS2 hn_u1 hb_u1
 go_wp2_with fail
 refine wp_region_noPanic ?_
 refine Wr.BI (S := (fun W => W.cell? ⟨B, 4, none⟩ = some (.string P))) (K := []) (by kernel_rfl) ?_
 change Wr.Ar _ _ _ _ _ _ _ _ _ (World.drew u2)
 have hBL0 : Below w1.heap.size w1 (World.drew u2) := Bl.drew HBU.out
 have hS0 : (World.drew u2).cell? ⟨B, 4, none⟩ = some (.string P) := AB hBL0 hc4x1
 refine Wr.tkI 0 ?_ ?_ hS0 ?_
 rotate_left
 ·intro wq hSw
  have q0 := hSw
  go_simp
  rfl
 simp only [sq]
 refine Wr.tkI 1 ?_ ?_ hS0 ?_
 rotate_left
 ·intro wq hSw
  have q0 := hSw
  go_simp
  rfl
 simp only [sq]
 refine Wr.tkI 2 ?_ ?_ hS0 ?_
 rotate_left
 ·intro wq hSw
  have q0 := hSw
  go_simp
  rfl
 simp only [sq]
 refine Wr.tkI 3 ?_ ?_ hS0 ?_
 rotate_left
 ·intro wq hSw
  have q0 := hSw
  go_simp
  rfl
 simp only [sq]
 refine Wr.tkI 4 ?_ ?_ hS0 ?_
 rotate_left
 ·intro wq hSw
  have q0 := hSw
  go_simp
  rfl
 simp only [sq]
 refine Wr.tkI 6 ?_ ?_ hS0 ?_
 rotate_left
 ·intro wq hSw
  have q0 := hSw
  go_simp
  rfl
 simp only [sq]
 refine Wr.tkI 7 ?_ ?_ hS0 ?_
 rotate_left
 ·intro wq hSw
  have q0 := hSw
  go_simp
  rfl
 simp only [sq]
 refine Wr.tkI 8 ?_ ?_ hS0 ?_
 rotate_left
 ·intro wq hSw
  have q0 := hSw
  go_simp
  rfl
 simp only [sq]
 refine Wr.tkI 9 ?_ ?_ hS0 ?_
 rotate_left
 ·intro wq hSw
  have q0 := hSw
  go_simp
  rfl
 simp only [sq]
 refine Wr.Ab (i := 5) (by kernel_rfl) ?_
 refine WrC.Be rfl (by rfl) (.tmp 42) (.tmp 45) _ _ rfl _ underlying100 (by kernel_rfl) w1.heap.size 3 32 32 P rfl rfl _ _ HYU.out P.size (Nat.min_eq_left (by omega)) (by rw [← HE0N.out]; omega) ?_
 intro w2 hw_w2
 have hBL1 : Below w1.heap.size w1 w2 := by rw [hw_w2.out]; exact AQ hBL0 nR _
 have hS1 : w2.cell? ⟨B, 4, none⟩ = some (.string P) := AB hBL1 hc4x1
 refine ⟨hS1, ?_⟩
 simp only [sq]
 refine Wr.tkI 10 ?_ ?_ hS1 ?_
 rotate_left
 ·intro wq hSw
  have q0 := hSw
  go_simp
  rfl
 simp only [sq]
 refine Wr.tkI 11 ?_ ?_ hS1 ?_
 rotate_left
 ·intro wq hSw
  have q0 := hSw
  go_simp
  rfl
 simp only [sq]
 refine Wr.tkI 12 ?_ ?_ hS1 ?_
 rotate_left
 ·intro wq hSw
  have q0 := hSw
  go_simp
  rfl
 simp only [sq]
 refine Wr.tkI 13 ?_ ?_ hS1 ?_
 rotate_left
 ·intro wq hSw
  have q0 := hSw
  go_simp
  rfl
 simp only [sq]
 refine Wr.tkI 14 ?_ ?_ hS1 ?_
 rotate_left
 ·intro wq hSw
  have q0 := hSw
  go_simp
  rfl
 simp only [sq]
 refine Wr.tkI 15 ?_ ?_ hS1 ?_
 rotate_left
 ·intro wq hSw
  have q0 := hSw
  go_simp
  rfl
 simp only [sq]
 refine Wr.tkI 16 ?_ ?_ hS1 ?_
 rotate_left
 ·intro wq hSw
  have q0 := hSw
  go_simp
  rfl
 simp only [sq]
 refine Wr.tkI 17 ?_ ?_ hS1 ?_
 rotate_left
 ·intro wq hSw
  have q0 := hSw
  go_simp
  rfl
 simp only [sq]
 refine Wr.tkI 18 ?_ ?_ hS1 ?_
 rotate_left
 ·intro wq hSw
  have q0 := hSw
  go_simp
  rfl
 simp only [sq]
 refine Wr.Ay (i := 19) (v := undef) rfl (by kernel_rfl) (fun _ _ _ h => h) (Or.inr ⟨by rfl, rfl⟩) hS1 ?_
 simp only [sq]
 refine Wr.Ay (i := 20) (v := undef) rfl (by kernel_rfl) (fun _ _ _ h => h) (Or.inr ⟨by rfl, rfl⟩) hS1 ?_
 simp only [sq]
 refine Wr.Ay (i := 21) (v := undef) rfl (by kernel_rfl) (fun _ _ _ h => h) (Or.inr ⟨by rfl, rfl⟩) hS1 ?_
 simp only [sq]
 refine Wr.tkI 22 ?_ ?_ hS1 ?_
 rotate_left
 ·intro wq hSw
  have q0 := hSw
  go_simp
  rfl
 simp only [sq]
 refine Wr.Ag (by kernel_rfl) (NoPanic.normal ?_) _
 have HX2 := lh ((hBL1.block _ lX1).trans HX1.out)
 have lX2 := AJ HX2.out
 have HBL2 := tbB HBL1 hBL1
 have HV2 := lh (HV1.out.below hBL1)
 have hc0x2 := AB hBL1 hc0x1
 have hc1x2 := AB hBL1 hc1x1
 have hc2x2 := AB hBL1 hc2x1
 have hc3x2 := AB hBL1 hc3x1
 have hc4x2 := AB hBL1 hc4x1
 have hc5x2 := AB hBL1 hc5x1
 go_wp2_with (first | (refine AC rfl _ _ _ rfl w.heap.size Z rfl (by rw [← HLIT.out]; rfl) _ _ HX2.out HZS.out rfl HZO.out ?_) | fail)
 intro wf hwf
 go_wp2
 refine bodyPost_ret (v := .tuple #[.agg Z, .int .i64 6]) (AU rfl _ _ w.heap.size 81 Z (0, 0) _ rfl (by rw [hwf.out]; exact AR HX2.out) underlying81 rfl HZS.out rfl) rfl ⟨rfl, by rw [hwf.out]; exact AQ HBL2.out nR _⟩
theorem NM (w : World) (s : ByteArray) (hs : s.size ≤ 140737488351232) (hv : Am w) {r a b p v : List UInt8} (ha : all (bl s) = ([EntS.mark, r, a, b, p, v], 0)) (h3 : 32 < p.length) :
 Calls Tryz.prog 26 #[.string s] w (RB (entV (WireS.read (bl s))) w) := by
 have hA := fun w => OctA.Ca w s (by unfold maxLen; omega)
 unfold Bt at hA
 rw [ha] at hA
 have HALL := lh hA
 clear hA
 rw [Fp ha]
 obtain ⟨K, hK⟩ := nXe (bsOf EntS.mark)
 have bK : bl K = EntS.mark := by rw [hK, AV]
 have zK : K.size ≤ 8192 := by rw [hK]; exact Aa ha _ (by simp)
 have HK := lh hK
 obtain ⟨R, hR⟩ := nXe (bsOf r)
 have bR : bl R = r := by rw [hR, AV]
 have zR : R.size ≤ 8192 := by rw [hR]; exact Aa ha _ (by simp)
 have HR := lh hR
 obtain ⟨A, hA⟩ := nXe (bsOf a)
 have bA : bl A = a := by rw [hA, AV]
 have zA : A.size ≤ 8192 := by rw [hA]; exact Aa ha _ (by simp)
 have HA := lh hA
 obtain ⟨D, hD⟩ := nXe (bsOf b)
 have bD : bl D = b := by rw [hD, AV]
 have zD : D.size ≤ 8192 := by rw [hD]; exact Aa ha _ (by simp)
 have HD := lh hD
 obtain ⟨P, hP⟩ := nXe (bsOf p)
 have bP : bl P = p := by rw [hP, AV]
 have zP : P.size ≤ 8192 := by rw [hP]; exact Aa ha _ (by simp)
 have HP := lh hP
 obtain ⟨V, hV⟩ := nXe (bsOf v)
 have bV : bl V = v := by rw [hV, AV]
 have zV : V.size ≤ 8192 := by rw [hV]; exact Aa ha _ (by simp)
 have HV := lh hV
 have hkk : (K.toList == [101, 110, 116, 114, 121]) = true := by rw [hK, BV, AV]; rfl
 have zP2 : P.size = p.length := by rw [hP, AY]
 obtain ⟨x, hx⟩ := nXe (M3 4096 a)
 obtain ⟨y, hy⟩ := nXe (M3 4096 b)
 have hN1 : ∀ w, Calls Tryz.prog 49 #[.string A] w fun e w' => e = .returned (.int .i64 x) ∧ w = w' := by
  intro w
  have := E8 w A (by unfold maxLen; omega)
  rw [bA, ← hx] at this
  exact this
 have hN2 : ∀ w, Calls Tryz.prog 49 #[.string D] w fun e w' => e = .returned (.int .i64 y) ∧ w = w' := by
  intro w
  have := E8 w D (by unfold maxLen; omega)
  rw [bD, ← hy] at this
  exact this
 rw [← hx, ← hy]
 obtain ⟨HN1, HN2⟩ := l2h hN1 hN2
 clear hN1 hN2
 rw [if_neg (fun h => by omega)]
 show Calls _ _ _ w (RB (.tuple #[.agg entZ, .int .i64 6]) w)
 obtain ⟨Z, hZ⟩ := nXe (entZ)
 have HLIT : Hid (zq1 Z) := lh (by rw [hZ]; unfold zq1; kernel_rfl)
 have HZN : Hid (Z.size = 37) := lh (by rw [hZ]; kernel_rfl)
 have HZS : Hid ((Tryz.prog.info? 81).map (·.size) = some Z.size) := lh (by rw [hZ]; kernel_rfl)
 have HZO : Hid (Z.all (·.oneCell') = true) := lh (by rw [hZ]; exact Ba _ _ _ _ _ _)
 rw [← hZ]
 obtain ⟨w0, hw0⟩ := nXe (w.alloc (.cells Z 81))
 have hb0 : Below w.heap.size w w0 := by rw [hw0]; exact bAx
 have HX0 : Hid (w0.heap[w.heap.size]? = some (.cells Z 81 (0, 0))) := lh (by rw [hw0]; exact AL _ _)
 have lX0 := AJ HX0.out
 obtain ⟨HBL0, HW0, HV0⟩ := l3h hb0 hw0 (hv.below hb0)
 clear hv
 clear hw0 hb0 hZ
 obtain ⟨E0, hE0⟩ := nXe (entA R x y Cg V ⟨#[]⟩)
 have hE0n : E0.size = 37 := by rw [hE0]; exact Dm (by first | rfl | assumption)
 have HE0S : Hid ((Tryz.prog.info? 81).map (·.size) = some E0.size) := lh (by rw [hE0n, ← HZN.out]; exact HZS.out)
 have HE0Z : Hid (Z.size = E0.size) := lh (by rw [hE0n, HZN.out])
 have HE0N : Hid (37 = E0.size) := lh hE0n.symm
 have HE0O : Hid (E0.all (·.oneCell') = true) := lh (by rw [hE0]; exact Ba _ _ _ _ _ _)
 have HE0 := lh hE0
 clear hE0n
 have hPn : ((32 : Int) != (P.size : Int)) = true := by simp; omega
 have hPg : (32 : Int) < P.size := by omega
 have hPq : ¬ ((P.size : Int) < 32) := by omega
 have hPm : 32 < P.size := by omega
 clear ha hx hy hK hR hA hD hP hV bK bR bA bD bP bV zP2 h3 hE0 
 go_enter func26, ntmps26
 go_wp2_with fail
 rw [HLIT.out, ← HW0.out]
 refine (HALL.out w0).mono ?_
 rintro e w1 ⟨v, rfl, hl, hb⟩
 obtain ⟨B, cap, rfl, hB, hc⟩ := Dc 6 hl rfl (by omega)
 clear hl
 have hc0_1 : w1.cell? ⟨B, 0, none⟩ = some (.string K) := by rw [HK.out]; exact hc 0 _ rfl
 have hc1_1 : w1.cell? ⟨B, 1, none⟩ = some (.string R) := by rw [HR.out]; exact hc 1 _ rfl
 have hc2_1 : w1.cell? ⟨B, 2, none⟩ = some (.string A) := by rw [HA.out]; exact hc 2 _ rfl
 have hc3_1 : w1.cell? ⟨B, 3, none⟩ = some (.string D) := by rw [HD.out]; exact hc 3 _ rfl
 have hc4_1 : w1.cell? ⟨B, 4, none⟩ = some (.string P) := by rw [HP.out]; exact hc 4 _ rfl
 have hc5_1 : w1.cell? ⟨B, 5, none⟩ = some (.string V) := by rw [HV.out]; exact hc 5 _ rfl
 have hBX : ¬ w.heap.size = B := by omega
 clear hc hB
 have HX1 := lh ((hb.block _ lX0).trans HX0.out)
 have lX1 := AJ HX1.out
 have HBL1 := tbB HBL0 hb
 have HV1 := lh (HV0.out.below hb)
 clear hb 
 clear lX0
 have hc0x1 := hc0_1
 clear hc0_1
 have hc1x1 := hc1_1
 clear hc1_1
 have hc2x1 := hc2_1
 clear hc2_1
 have hc3x1 := hc3_1
 clear hc3_1
 have hc4x1 := hc4_1
 clear hc4_1
 have hc5x1 := hc5_1
 clear hc5_1
 go_wp2_with fail
 refine wp_region_noPanic ?_
 refine Wr.BI (S := (fun W => W.cell? ⟨B, 1, none⟩ = some (.string R) ∧ W.cell? ⟨B, 2, none⟩ = some (.string A) ∧ W.cell? ⟨B, 3, none⟩ = some (.string D) ∧ W.cell? ⟨B, 5, none⟩ = some (.string V))) (K := []) (by kernel_rfl) ?_
 change Wr.Ar _ _ _ _ _ _ _ _ _ (World.drew w1)
 have hBL0 : Below w1.heap.size w1 (World.drew w1) := Bl.drew (Below.refl _ _)
 have hS0 : (World.drew w1).cell? ⟨B, 1, none⟩ = some (.string R) ∧ (World.drew w1).cell? ⟨B, 2, none⟩ = some (.string A) ∧ (World.drew w1).cell? ⟨B, 3, none⟩ = some (.string D) ∧ (World.drew w1).cell? ⟨B, 5, none⟩ = some (.string V) := ⟨AB hBL0 hc1x1, AB hBL0 hc2x1, AB hBL0 hc3x1, AB hBL0 hc5x1⟩
 refine Wr.tkI 0 ?_ ?_ hS0 ?_
 rotate_left
 ·intro wq hSw
  obtain ⟨q0, q1, q2, q3⟩ := hSw
  go_simp
  rfl
 simp only [sq]
 refine Wr.tkI 1 ?_ ?_ hS0 ?_
 rotate_left
 ·intro wq hSw
  obtain ⟨q0, q1, q2, q3⟩ := hSw
  go_simp
  rfl
 simp only [sq]
 refine Wr.tkI 2 ?_ ?_ hS0 ?_
 rotate_left
 ·intro wq hSw
  obtain ⟨q0, q1, q2, q3⟩ := hSw
  go_simp
  rfl
 simp only [sq]
 refine Wr.tkI 3 ?_ ?_ hS0 ?_
 rotate_left
 ·intro wq hSw
  obtain ⟨q0, q1, q2, q3⟩ := hSw
  go_simp
  rfl
 simp only [sq]
 refine Wr.tkI 4 ?_ ?_ hS0 ?_
 rotate_left
 ·intro wq hSw
  obtain ⟨q0, q1, q2, q3⟩ := hSw
  go_simp
  rfl
 simp only [sq]
 refine Wr.tkI 5 ?_ ?_ hS0 ?_
 rotate_left
 ·intro wq hSw
  obtain ⟨q0, q1, q2, q3⟩ := hSw
  go_simp
  rfl
 simp only [sq]
 refine WrC.Bh (i := 6) (.tmp 31) (.string A) (v := .int .i64 x) rfl (by kernel_rfl) (fun _ _ _ h => h) (by simp [undef]) (by rfl) (by rfl) ?_ hS0 ?_
 ·intro a' wq hx' hSw
  refine ⟨_, _, ?_, HN1.out wq⟩
  go_simp
  first | done | rfl | exact ⟨⟨rfl, rfl⟩, rfl⟩ | exact ⟨rfl, rfl⟩ | exact hx' | (simp [go_sem] at hx'; exact hx')
 simp only [sq]
 refine Wr.tkI 7 ?_ ?_ hS0 ?_
 rotate_left
 ·intro wq hSw
  obtain ⟨q0, q1, q2, q3⟩ := hSw
  go_simp
  rfl
 simp only [sq]
 refine Wr.tkI 8 ?_ ?_ hS0 ?_
 rotate_left
 ·intro wq hSw
  obtain ⟨q0, q1, q2, q3⟩ := hSw
  go_simp
  rfl
 simp only [sq]
 refine Wr.tkI 9 ?_ ?_ hS0 ?_
 rotate_left
 ·intro wq hSw
  obtain ⟨q0, q1, q2, q3⟩ := hSw
  go_simp
  rfl
 simp only [sq]
 refine WrC.Bh (i := 10) (.tmp 35) (.string D) (v := .int .i64 y) rfl (by kernel_rfl) (fun _ _ _ h => h) (by simp [undef]) (by rfl) (by rfl) ?_ hS0 ?_
 ·intro a' wq hx' hSw
  refine ⟨_, _, ?_, HN2.out wq⟩
  go_simp
  first | done | rfl | exact ⟨⟨rfl, rfl⟩, rfl⟩ | exact ⟨rfl, rfl⟩ | exact hx' | (simp [go_sem] at hx'; exact hx')
 simp only [sq]
 refine Wr.tkI 11 ?_ ?_ hS0 ?_
 rotate_left
 ·intro wq hSw
  obtain ⟨q0, q1, q2, q3⟩ := hSw
  go_simp
  rfl
 simp only [sq]
 refine Wr.tkI 12 ?_ ?_ hS0 ?_
 rotate_left
 ·intro wq hSw
  obtain ⟨q0, q1, q2, q3⟩ := hSw
  go_simp
  rfl
 simp only [sq]
 refine Wr.tkI 13 ?_ ?_ hS0 ?_
 rotate_left
 ·intro wq hSw
  obtain ⟨q0, q1, q2, q3⟩ := hSw
  go_simp
  rfl
 simp only [sq]
 refine Wr.Ay (i := 14) (v := .agg E0) rfl (by kernel_rfl) (fun _ _ _ h => h) (WrC.Cb _ _ rfl (by rfl) E0 (by rw [HE0.out]; kernel_rfl)) hS0 ?_
 simp only [sq]
 refine Wr.Ab (i := 15) (by kernel_rfl) ?_
 refine Ap rfl (by rfl) (w' := (World.drew w1).alloc (.cells zl1 81)) (v := .pointer (some ⟨w1.heap.size, 0, none⟩)) (by go_simp; first | done | rfl) ?_
 obtain ⟨u1, hw_u1⟩ := nXe ((World.drew w1).alloc (.cells zl1 81))
 rw [← hw_u1]
 have hb_u1 : Below (World.drew w1).heap.size (World.drew w1) u1 := by rw [hw_u1]; exact bAx
 have hn_u1 : u1.heap[(World.drew w1).heap.size]? = some (.cells zl1 81 (0, 0)) := by rw [hw_u1]; exact Ad _ rfl
 have hBL1 : Below w1.heap.size w1 u1 := hBL0.trans (hb_u1.mono hBL0.size)
 have hS1 : u1.cell? ⟨B, 1, none⟩ = some (.string R) ∧ u1.cell? ⟨B, 2, none⟩ = some (.string A) ∧ u1.cell? ⟨B, 3, none⟩ = some (.string D) ∧ u1.cell? ⟨B, 5, none⟩ = some (.string V) := ⟨AB hBL1 hc1x1, AB hBL1 hc2x1, AB hBL1 hc3x1, AB hBL1 hc5x1⟩
 clear hw_u1
 refine ⟨hS1, ?_⟩
 simp only [sq]
 refine Wr.Ab (i := 16) (by kernel_rfl) ?_
 refine WrC.BM rfl (by rfl) _ _ _ rfl w1.heap.size E0 rfl rfl _ _ hn_u1 HE0S.out HE0N.out HE0O.out ?_
 intro u2 hw_u2
 have hBL2 : Below w1.heap.size w1 u2 := by rw [hw_u2.out]; exact AQ hBL1 nR _
 have hy_u2 : u2.heap[w1.heap.size]? = some (.cells E0 81 (0, 0)) := by rw [hw_u2.out]; exact AR hn_u1
 have hS2 : u2.cell? ⟨B, 1, none⟩ = some (.string R) ∧ u2.cell? ⟨B, 2, none⟩ = some (.string A) ∧ u2.cell? ⟨B, 3, none⟩ = some (.string D) ∧ u2.cell? ⟨B, 5, none⟩ = some (.string V) := ⟨AB hBL2 hc1x1, AB hBL2 hc2x1, AB hBL2 hc3x1, AB hBL2 hc5x1⟩
 clear hw_u2
 refine ⟨hS2, ?_⟩
 simp only [sq]
 refine Wr.Ag (by kernel_rfl) (NoPanic.normal ?_) _
 obtain ⟨HBU, HYU⟩ := l2h hBL2 hy_u2
 have lYU := AJ HYU.out
 clear hBL0 hS0 hBL1 hS1 hBL2 hS2 hn_u1 hb_u1
 go_wp2_with fail
 refine wp_region_noPanic ?_
 refine Wr.BI (S := (fun W => W.cell? ⟨B, 4, none⟩ = some (.string P))) (K := []) (by kernel_rfl) ?_
 change Wr.Ar _ _ _ _ _ _ _ _ _ (World.drew u2)
 have hBL0 : Below w1.heap.size w1 (World.drew u2) := Bl.drew HBU.out
 have hS0 : (World.drew u2).cell? ⟨B, 4, none⟩ = some (.string P) := AB hBL0 hc4x1
 refine Wr.tkI 0 ?_ ?_ hS0 ?_
 rotate_left
 ·intro wq hSw
  have q0 := hSw
  go_simp
  rfl
 simp only [sq]
 refine Wr.tkI 1 ?_ ?_ hS0 ?_
 rotate_left
 ·intro wq hSw
  have q0 := hSw
  go_simp
  rfl
 simp only [sq]
 refine Wr.tkI 2 ?_ ?_ hS0 ?_
 rotate_left
 ·intro wq hSw
  have q0 := hSw
  go_simp
  rfl
 simp only [sq]
 refine Wr.tkI 3 ?_ ?_ hS0 ?_
 rotate_left
 ·intro wq hSw
  have q0 := hSw
  go_simp
  rfl
 simp only [sq]
 refine Wr.tkI 4 ?_ ?_ hS0 ?_
 rotate_left
 ·intro wq hSw
  have q0 := hSw
  go_simp
  rfl
 simp only [sq]
 refine Wr.tkI 6 ?_ ?_ hS0 ?_
 rotate_left
 ·intro wq hSw
  have q0 := hSw
  go_simp
  rfl
 simp only [sq]
 refine Wr.tkI 7 ?_ ?_ hS0 ?_
 rotate_left
 ·intro wq hSw
  have q0 := hSw
  go_simp
  rfl
 simp only [sq]
 refine Wr.tkI 8 ?_ ?_ hS0 ?_
 rotate_left
 ·intro wq hSw
  have q0 := hSw
  go_simp
  rfl
 simp only [sq]
 refine Wr.tkI 9 ?_ ?_ hS0 ?_
 rotate_left
 ·intro wq hSw
  have q0 := hSw
  go_simp
  rfl
 simp only [sq]
 refine Wr.Ab (i := 5) (by kernel_rfl) ?_
 refine WrC.Be rfl (by rfl) (.tmp 42) (.tmp 45) _ _ rfl _ underlying100 (by kernel_rfl) w1.heap.size 3 32 32 P rfl rfl _ _ HYU.out 32 (Nat.min_eq_right (by omega)) (by rw [← HE0N.out]; omega) ?_
 intro w2 hw_w2
 have hBL1 : Below w1.heap.size w1 w2 := by rw [hw_w2.out]; exact AQ hBL0 nR _
 have hS1 : w2.cell? ⟨B, 4, none⟩ = some (.string P) := AB hBL1 hc4x1
 refine ⟨hS1, ?_⟩
 simp only [sq]
 refine Wr.tkI 10 ?_ ?_ hS1 ?_
 rotate_left
 ·intro wq hSw
  have q0 := hSw
  go_simp
  rfl
 simp only [sq]
 refine Wr.tkI 11 ?_ ?_ hS1 ?_
 rotate_left
 ·intro wq hSw
  have q0 := hSw
  go_simp
  rfl
 simp only [sq]
 refine Wr.Ay (i := 12) (v := undef) rfl (by kernel_rfl) (fun _ _ _ h => h) (Or.inr ⟨by rfl, rfl⟩) hS1 ?_
 simp only [sq]
 refine Wr.Ay (i := 13) (v := undef) rfl (by kernel_rfl) (fun _ _ _ h => h) (Or.inr ⟨by rfl, rfl⟩) hS1 ?_
 simp only [sq]
 refine Wr.Ay (i := 14) (v := undef) rfl (by kernel_rfl) (fun _ _ _ h => h) (Or.inr ⟨by rfl, rfl⟩) hS1 ?_
 simp only [sq]
 refine Wr.Ay (i := 15) (v := undef) rfl (by kernel_rfl) (fun _ _ _ h => h) (Or.inr ⟨by rfl, rfl⟩) hS1 ?_
 simp only [sq]
 refine Wr.Ay (i := 16) (v := undef) rfl (by kernel_rfl) (fun _ _ _ h => h) (Or.inr ⟨by rfl, rfl⟩) hS1 ?_
 simp only [sq]
 refine Wr.tkI 17 ?_ ?_ hS1 ?_
 rotate_left
 ·intro wq hSw
  have q0 := hSw
  go_simp
  rfl
 simp only [sq]
 refine Wr.tkI 18 ?_ ?_ hS1 ?_
 rotate_left
 ·intro wq hSw
  have q0 := hSw
  go_simp
  rfl
 simp only [sq]
 refine Wr.Ay (i := 19) (v := undef) rfl (by kernel_rfl) (fun _ _ _ h => h) (Or.inr ⟨by rfl, rfl⟩) hS1 ?_
 simp only [sq]
 refine Wr.Ay (i := 20) (v := undef) rfl (by kernel_rfl) (fun _ _ _ h => h) (Or.inr ⟨by rfl, rfl⟩) hS1 ?_
 simp only [sq]
 refine Wr.Ay (i := 21) (v := undef) rfl (by kernel_rfl) (fun _ _ _ h => h) (Or.inr ⟨by rfl, rfl⟩) hS1 ?_
 simp only [sq]
 refine Wr.tkI 22 ?_ ?_ hS1 ?_
 rotate_left
 ·intro wq hSw
  have q0 := hSw
  go_simp
  rfl
 simp only [sq]
 refine Wr.Ag (by kernel_rfl) (NoPanic.normal ?_) _
 have HX2 := lh ((hBL1.block _ lX1).trans HX1.out)
 have lX2 := AJ HX2.out
 have HBL2 := tbB HBL1 hBL1
 have HV2 := lh (HV1.out.below hBL1)
 have hc0x2 := AB hBL1 hc0x1
 have hc1x2 := AB hBL1 hc1x1
 have hc2x2 := AB hBL1 hc2x1
 have hc3x2 := AB hBL1 hc3x1
 have hc4x2 := AB hBL1 hc4x1
 have hc5x2 := AB hBL1 hc5x1
 go_wp2_with (first | (refine AC rfl _ _ _ rfl w.heap.size Z rfl (by rw [← HLIT.out]; rfl) _ _ HX2.out HZS.out rfl HZO.out ?_) | fail)
 intro wf hwf
 go_wp2
 refine bodyPost_ret (v := .tuple #[.agg Z, .int .i64 6]) (AU rfl _ _ w.heap.size 81 Z (0, 0) _ rfl (by rw [hwf.out]; exact AR HX2.out) underlying81 rfl HZS.out rfl) rfl ⟨rfl, by rw [hwf.out]; exact AQ HBL2.out nR _⟩
theorem NN (w : World) (s : ByteArray) (hs : s.size ≤ 140737488351232) (hv : Am w) {r a b p v : List UInt8} (ha : all (bl s) = ([EntS.mark, r, a, b, p, v], 0)) (h3 : p.length = 32) :
 Calls Tryz.prog 26 #[.string s] w (RB (entV (WireS.read (bl s))) w) := by
 have hA := fun w => OctA.Ca w s (by unfold maxLen; omega)
 unfold Bt at hA
 rw [ha] at hA
 have HALL := lh hA
 clear hA
 rw [Fp ha]
 obtain ⟨K, hK⟩ := nXe (bsOf EntS.mark)
 have bK : bl K = EntS.mark := by rw [hK, AV]
 have zK : K.size ≤ 8192 := by rw [hK]; exact Aa ha _ (by simp)
 have HK := lh hK
 obtain ⟨R, hR⟩ := nXe (bsOf r)
 have bR : bl R = r := by rw [hR, AV]
 have zR : R.size ≤ 8192 := by rw [hR]; exact Aa ha _ (by simp)
 have HR := lh hR
 obtain ⟨A, hA⟩ := nXe (bsOf a)
 have bA : bl A = a := by rw [hA, AV]
 have zA : A.size ≤ 8192 := by rw [hA]; exact Aa ha _ (by simp)
 have HA := lh hA
 obtain ⟨D, hD⟩ := nXe (bsOf b)
 have bD : bl D = b := by rw [hD, AV]
 have zD : D.size ≤ 8192 := by rw [hD]; exact Aa ha _ (by simp)
 have HD := lh hD
 obtain ⟨P, hP⟩ := nXe (bsOf p)
 have bP : bl P = p := by rw [hP, AV]
 have zP : P.size ≤ 8192 := by rw [hP]; exact Aa ha _ (by simp)
 have HP := lh hP
 obtain ⟨V, hV⟩ := nXe (bsOf v)
 have bV : bl V = v := by rw [hV, AV]
 have zV : V.size ≤ 8192 := by rw [hV]; exact Aa ha _ (by simp)
 have HV := lh hV
 have hkk : (K.toList == [101, 110, 116, 114, 121]) = true := by rw [hK, BV, AV]; rfl
 have zP2 : P.size = p.length := by rw [hP, AY]
 obtain ⟨x, hx⟩ := nXe (M3 4096 a)
 obtain ⟨y, hy⟩ := nXe (M3 4096 b)
 have hN1 : ∀ w, Calls Tryz.prog 49 #[.string A] w fun e w' => e = .returned (.int .i64 x) ∧ w = w' := by
  intro w
  have := E8 w A (by unfold maxLen; omega)
  rw [bA, ← hx] at this
  exact this
 have hN2 : ∀ w, Calls Tryz.prog 49 #[.string D] w fun e w' => e = .returned (.int .i64 y) ∧ w = w' := by
  intro w
  have := E8 w D (by unfold maxLen; omega)
  rw [bD, ← hy] at this
  exact this
 rw [← hx, ← hy]
 obtain ⟨HN1, HN2⟩ := l2h hN1 hN2
 clear hN1 hN2
 obtain ⟨F, cz, cf, hF, hG⟩ : ∃ (F : Array Value) (cz cf : Int), (if p.length = 32 ∧ EntS.BD ⟨r, x, y, p, v, []⟩ = true then cz = 0 ∧ cf = 0 ∧ F = entA R x y p V ⟨#[]⟩ else cz = 2 ∧ cf = 6 ∧ F = entZ) ∧ True := by
  split
  ·exact ⟨_, 0, 0, ⟨rfl, rfl, rfl⟩, trivial⟩
  ·exact ⟨_, 2, 6, ⟨rfl, rfl, rfl⟩, trivial⟩
 have hC0 : ∀ E1, E1 = entA R x y p V ⟨#[]⟩ → ∀ w, Am w → Calls Tryz.prog 50 #[.agg E1] w (RB (.int .i64 cz) w) := by
  intro E1 hE1 w hv
  have := EntP.Dw w E1 R x y p V ⟨#[]⟩ ⟨hE1, h3⟩ hv (by omega) (by unfold maxLen; omega) (Nat.zero_le _)
  rw [show Bp R x y p V ⟨#[]⟩ = ⟨r, x, y, p, v, []⟩ by simp [Bp, bR, bV]; rfl] at this
  by_cases hc : EntS.BD ⟨r, x, y, p, v, []⟩ = true
  ·rw [if_pos ⟨h3, hc⟩] at hF
   rw [hF.1]
   rw [hc] at this
   exact this
  ·rw [if_neg (fun h => hc h.2)] at hF
   rw [hF.1]
   rw [Bool.not_eq_true] at hc
   rw [hc] at this
   exact this
 rw [show entV (if p.length = 32 ∧ EntS.BD ⟨r, x, y, p, v, []⟩ = true then some ⟨r, x, y, p, v, []⟩ else none) = .tuple #[.agg F, .int .i64 cf] from by
  split at hF
  ·rename_i hc
   rw [if_pos hc, hF.2.1, hF.2.2, hR, hV]
   rfl
  ·rename_i hc
   rw [if_neg hc, hF.2.1, hF.2.2]
   rfl]
 have hW : (cz = 0 ∧ cf = 0 ∧ F = entA R x y p V ⟨#[]⟩) ∨ ((cz != 0) = true ∧ cf = 6 ∧ F = entZ) := by
  split at hF
  ·exact .inl hF
  ·exact .inr ⟨by rw [hF.1]; rfl, hF.2⟩
 clear hF hG
 obtain ⟨Z', hZ'⟩ : ∃ Z, Z = entZ := ⟨_, rfl⟩
 rw [← hZ'] at hW
 obtain ⟨Z, hZ⟩ := nXe (entZ)
 have HLIT : Hid (zq1 Z) := lh (by rw [hZ]; unfold zq1; kernel_rfl)
 have HZN : Hid (Z.size = 37) := lh (by rw [hZ]; kernel_rfl)
 have HZS : Hid ((Tryz.prog.info? 81).map (·.size) = some Z.size) := lh (by rw [hZ]; kernel_rfl)
 have HZO : Hid (Z.all (·.oneCell') = true) := lh (by rw [hZ]; exact Ba _ _ _ _ _ _)
 try rw [← hZ]
 obtain ⟨w0, hw0⟩ := nXe (w.alloc (.cells Z 81))
 have hb0 : Below w.heap.size w w0 := by rw [hw0]; exact bAx
 have HX0 : Hid (w0.heap[w.heap.size]? = some (.cells Z 81 (0, 0))) := lh (by rw [hw0]; exact AL _ _)
 have lX0 := AJ HX0.out
 obtain ⟨HBL0, HW0, HV0⟩ := l3h hb0 hw0 (hv.below hb0)
 clear hv
 have hZZ : Z = Z' := by rw [hZ, hZ']
 subst hZZ
 clear hw0 hb0 hZ hZ'
 obtain ⟨E0, hE0⟩ := nXe (entA R x y Cg V ⟨#[]⟩)
 have hE0n : E0.size = 37 := by rw [hE0]; exact Dm (by first | rfl | assumption)
 have HE0S : Hid ((Tryz.prog.info? 81).map (·.size) = some E0.size) := lh (by rw [hE0n, ← HZN.out]; exact HZS.out)
 have HE0Z : Hid (Z.size = E0.size) := lh (by rw [hE0n, HZN.out])
 have HE0N : Hid (37 = E0.size) := lh hE0n.symm
 have HE0O : Hid (E0.all (·.oneCell') = true) := lh (by rw [hE0]; exact Ba _ _ _ _ _ _)
 have HE0 := lh hE0
 clear hE0n
 obtain ⟨E1, hE1⟩ := nXe (entA R x y p V ⟨#[]⟩)
 have hE1n : E1.size = 37 := by rw [hE1]; exact Dm (by first | rfl | assumption)
 have HE1S : Hid ((Tryz.prog.info? 81).map (·.size) = some E1.size) := lh (by rw [hE1n, ← HZN.out]; exact HZS.out)
 have HE1Z : Hid (Z.size = E1.size) := lh (by rw [hE1n, HZN.out])
 have HE1N : Hid (37 = E1.size) := lh hE1n.symm
 have HE1O : Hid (E1.all (·.oneCell') = true) := lh (by rw [hE1]; exact Ba _ _ _ _ _ _)
 have HE1 := lh hE1
 clear hE1n
 have HC := lh (hC0 E1 hE1)
 rw [← hE1] at hW
 have HW' := lh hW
 clear hC0 hW
 have hcopy : (E0.toList.take 3 ++ byV ((bl P).take 32) ++ E0.toList.drop (3 + 32)).toArray = E1 := by
  rw [hE0, hE1, bP]
  exact ent_copy _ _ _ Dz h3 _ _
 have Hcopy := lh hcopy
 clear hcopy
 have hP32 : P.size = 32 := by omega
 clear ha hx hy hK hR hA hD hP hV bK bR bA bD bP bV zP2 h3 hE0 hE1
 go_enter func26, ntmps26
 go_wp2_with fail
 rw [HLIT.out, ← HW0.out]
 refine (HALL.out w0).mono ?_
 rintro e w1 ⟨v, rfl, hl, hb⟩
 obtain ⟨B, cap, rfl, hB, hc⟩ := Dc 6 hl rfl (by omega)
 clear hl
 have hc0_1 : w1.cell? ⟨B, 0, none⟩ = some (.string K) := by rw [HK.out]; exact hc 0 _ rfl
 have hc1_1 : w1.cell? ⟨B, 1, none⟩ = some (.string R) := by rw [HR.out]; exact hc 1 _ rfl
 have hc2_1 : w1.cell? ⟨B, 2, none⟩ = some (.string A) := by rw [HA.out]; exact hc 2 _ rfl
 have hc3_1 : w1.cell? ⟨B, 3, none⟩ = some (.string D) := by rw [HD.out]; exact hc 3 _ rfl
 have hc4_1 : w1.cell? ⟨B, 4, none⟩ = some (.string P) := by rw [HP.out]; exact hc 4 _ rfl
 have hc5_1 : w1.cell? ⟨B, 5, none⟩ = some (.string V) := by rw [HV.out]; exact hc 5 _ rfl
 have hBX : ¬ w.heap.size = B := by omega
 clear hc hB
 have HX1 := lh ((hb.block _ lX0).trans HX0.out)
 have lX1 := AJ HX1.out
 have HBL1 := tbB HBL0 hb
 have HV1 := lh (HV0.out.below hb)
 clear hb 
 clear lX0
 have hc0x1 := hc0_1
 clear hc0_1
 have hc1x1 := hc1_1
 clear hc1_1
 have hc2x1 := hc2_1
 clear hc2_1
 have hc3x1 := hc3_1
 clear hc3_1
 have hc4x1 := hc4_1
 clear hc4_1
 have hc5x1 := hc5_1
 clear hc5_1
 go_wp2_with fail
 refine wp_region_noPanic ?_
 refine Wr.BI (S := (fun W => W.cell? ⟨B, 1, none⟩ = some (.string R) ∧ W.cell? ⟨B, 2, none⟩ = some (.string A) ∧ W.cell? ⟨B, 3, none⟩ = some (.string D) ∧ W.cell? ⟨B, 5, none⟩ = some (.string V))) (K := []) (by kernel_rfl) ?_
 change Wr.Ar _ _ _ _ _ _ _ _ _ (World.drew w1)
 have hBL0 : Below w1.heap.size w1 (World.drew w1) := Bl.drew (Below.refl _ _)
 have hS0 : (World.drew w1).cell? ⟨B, 1, none⟩ = some (.string R) ∧ (World.drew w1).cell? ⟨B, 2, none⟩ = some (.string A) ∧ (World.drew w1).cell? ⟨B, 3, none⟩ = some (.string D) ∧ (World.drew w1).cell? ⟨B, 5, none⟩ = some (.string V) := ⟨AB hBL0 hc1x1, AB hBL0 hc2x1, AB hBL0 hc3x1, AB hBL0 hc5x1⟩
 refine Wr.tkI 0 ?_ ?_ hS0 ?_
 rotate_left
 ·intro wq hSw
  obtain ⟨q0, q1, q2, q3⟩ := hSw
  go_simp
  rfl
 simp only [sq]
 refine Wr.tkI 1 ?_ ?_ hS0 ?_
 rotate_left
 ·intro wq hSw
  obtain ⟨q0, q1, q2, q3⟩ := hSw
  go_simp
  rfl
 simp only [sq]
 refine Wr.tkI 2 ?_ ?_ hS0 ?_
 rotate_left
 ·intro wq hSw
  obtain ⟨q0, q1, q2, q3⟩ := hSw
  go_simp
  rfl
 simp only [sq]
 refine Wr.tkI 3 ?_ ?_ hS0 ?_
 rotate_left
 ·intro wq hSw
  obtain ⟨q0, q1, q2, q3⟩ := hSw
  go_simp
  rfl
 simp only [sq]
 refine Wr.tkI 4 ?_ ?_ hS0 ?_
 rotate_left
 ·intro wq hSw
  obtain ⟨q0, q1, q2, q3⟩ := hSw
  go_simp
  rfl
 simp only [sq]
 refine Wr.tkI 5 ?_ ?_ hS0 ?_
 rotate_left
 ·intro wq hSw
  obtain ⟨q0, q1, q2, q3⟩ := hSw
  go_simp
  rfl
 simp only [sq]
 refine WrC.Bh (i := 6) (.tmp 31) (.string A) (v := .int .i64 x) rfl (by kernel_rfl) (fun _ _ _ h => h) (by simp [undef]) (by rfl) (by rfl) ?_ hS0 ?_
 ·intro a' wq hx' hSw
  refine ⟨_, _, ?_, HN1.out wq⟩
  go_simp
  first | done | rfl | exact ⟨⟨rfl, rfl⟩, rfl⟩ | exact ⟨rfl, rfl⟩ | exact hx' | (simp [go_sem] at hx'; exact hx')
 simp only [sq]
 refine Wr.tkI 7 ?_ ?_ hS0 ?_
 rotate_left
 ·intro wq hSw
  obtain ⟨q0, q1, q2, q3⟩ := hSw
  go_simp
  rfl
 simp only [sq]
 refine Wr.tkI 8 ?_ ?_ hS0 ?_
 rotate_left
 ·intro wq hSw
  obtain ⟨q0, q1, q2, q3⟩ := hSw
  go_simp
  rfl
 simp only [sq]
 refine Wr.tkI 9 ?_ ?_ hS0 ?_
 rotate_left
 ·intro wq hSw
  obtain ⟨q0, q1, q2, q3⟩ := hSw
  go_simp
  rfl
 simp only [sq]
 refine WrC.Bh (i := 10) (.tmp 35) (.string D) (v := .int .i64 y) rfl (by kernel_rfl) (fun _ _ _ h => h) (by simp [undef]) (by rfl) (by rfl) ?_ hS0 ?_
 ·intro a' wq hx' hSw
  refine ⟨_, _, ?_, HN2.out wq⟩
  go_simp
  first | done | rfl | exact ⟨⟨rfl, rfl⟩, rfl⟩ | exact ⟨rfl, rfl⟩ | exact hx' | (simp [go_sem] at hx'; exact hx')
 simp only [sq]
 refine Wr.tkI 11 ?_ ?_ hS0 ?_
 rotate_left
 ·intro wq hSw
  obtain ⟨q0, q1, q2, q3⟩ := hSw
  go_simp
  rfl
 simp only [sq]
 refine Wr.tkI 12 ?_ ?_ hS0 ?_
 rotate_left
 ·intro wq hSw
  obtain ⟨q0, q1, q2, q3⟩ := hSw
  go_simp
  rfl
 simp only [sq]
 refine Wr.tkI 13 ?_ ?_ hS0 ?_
 rotate_left
 ·intro wq hSw
  obtain ⟨q0, q1, q2, q3⟩ := hSw
  go_simp
  rfl
 simp only [sq]
 refine Wr.Ay (i := 14) (v := .agg E0) rfl (by kernel_rfl) (fun _ _ _ h => h) (WrC.Cb _ _ rfl (by rfl) E0 (by rw [HE0.out]; kernel_rfl)) hS0 ?_
 simp only [sq]
 refine Wr.Ab (i := 15) (by kernel_rfl) ?_
 refine Ap rfl (by rfl) (w' := (World.drew w1).alloc (.cells zl1 81)) (v := .pointer (some ⟨w1.heap.size, 0, none⟩)) (by go_simp; first | done | rfl) ?_
 obtain ⟨u1, hw_u1⟩ := nXe ((World.drew w1).alloc (.cells zl1 81))
 rw [← hw_u1]
 have hb_u1 : Below (World.drew w1).heap.size (World.drew w1) u1 := by rw [hw_u1]; exact bAx
 have hn_u1 : u1.heap[(World.drew w1).heap.size]? = some (.cells zl1 81 (0, 0)) := by rw [hw_u1]; exact Ad _ rfl
 have hBL1 : Below w1.heap.size w1 u1 := hBL0.trans (hb_u1.mono hBL0.size)
 have hS1 : u1.cell? ⟨B, 1, none⟩ = some (.string R) ∧ u1.cell? ⟨B, 2, none⟩ = some (.string A) ∧ u1.cell? ⟨B, 3, none⟩ = some (.string D) ∧ u1.cell? ⟨B, 5, none⟩ = some (.string V) := ⟨AB hBL1 hc1x1, AB hBL1 hc2x1, AB hBL1 hc3x1, AB hBL1 hc5x1⟩
 clear hw_u1
 refine ⟨hS1, ?_⟩
 simp only [sq]
 refine Wr.Ab (i := 16) (by kernel_rfl) ?_
 refine WrC.BM rfl (by rfl) _ _ _ rfl w1.heap.size E0 rfl rfl _ _ hn_u1 HE0S.out HE0N.out HE0O.out ?_
 intro u2 hw_u2
 have hBL2 : Below w1.heap.size w1 u2 := by rw [hw_u2.out]; exact AQ hBL1 nR _
 have hy_u2 : u2.heap[w1.heap.size]? = some (.cells E0 81 (0, 0)) := by rw [hw_u2.out]; exact AR hn_u1
 have hS2 : u2.cell? ⟨B, 1, none⟩ = some (.string R) ∧ u2.cell? ⟨B, 2, none⟩ = some (.string A) ∧ u2.cell? ⟨B, 3, none⟩ = some (.string D) ∧ u2.cell? ⟨B, 5, none⟩ = some (.string V) := ⟨AB hBL2 hc1x1, AB hBL2 hc2x1, AB hBL2 hc3x1, AB hBL2 hc5x1⟩
 clear hw_u2
 refine ⟨hS2, ?_⟩
 simp only [sq]
 refine Wr.Ag (by kernel_rfl) (NoPanic.normal ?_) _
 obtain ⟨HBU, HYU⟩ := l2h hBL2 hy_u2
 have lYU := AJ HYU.out
 clear hBL0 hS0 hBL1 hS1 hBL2 hS2 hn_u1 hb_u1
 go_wp2_with fail
 refine wp_region_noPanic ?_
 refine Wr.BI (S := (fun W => W.cell? ⟨B, 4, none⟩ = some (.string P))) (K := []) (by kernel_rfl) ?_
 change Wr.Ar _ _ _ _ _ _ _ _ _ (World.drew u2)
 have hBL0 : Below w1.heap.size w1 (World.drew u2) := Bl.drew HBU.out
 have hS0 : (World.drew u2).cell? ⟨B, 4, none⟩ = some (.string P) := AB hBL0 hc4x1
 refine Wr.tkI 0 ?_ ?_ hS0 ?_
 rotate_left
 ·intro wq hSw
  have q0 := hSw
  go_simp
  rfl
 simp only [sq]
 refine Wr.tkI 1 ?_ ?_ hS0 ?_
 rotate_left
 ·intro wq hSw
  have q0 := hSw
  go_simp
  rfl
 simp only [sq]
 refine Wr.tkI 2 ?_ ?_ hS0 ?_
 rotate_left
 ·intro wq hSw
  have q0 := hSw
  go_simp
  rfl
 simp only [sq]
 refine Wr.tkI 3 ?_ ?_ hS0 ?_
 rotate_left
 ·intro wq hSw
  have q0 := hSw
  go_simp
  rfl
 simp only [sq]
 refine Wr.tkI 4 ?_ ?_ hS0 ?_
 rotate_left
 ·intro wq hSw
  have q0 := hSw
  go_simp
  rfl
 simp only [sq]
 refine Wr.tkI 6 ?_ ?_ hS0 ?_
 rotate_left
 ·intro wq hSw
  have q0 := hSw
  go_simp
  rfl
 simp only [sq]
 refine Wr.tkI 7 ?_ ?_ hS0 ?_
 rotate_left
 ·intro wq hSw
  have q0 := hSw
  go_simp
  rfl
 simp only [sq]
 refine Wr.tkI 8 ?_ ?_ hS0 ?_
 rotate_left
 ·intro wq hSw
  have q0 := hSw
  go_simp
  rfl
 simp only [sq]
 refine Wr.tkI 9 ?_ ?_ hS0 ?_
 rotate_left
 ·intro wq hSw
  have q0 := hSw
  go_simp
  rfl
 simp only [sq]
 refine Wr.Ab (i := 5) (by kernel_rfl) ?_
 refine WrC.Be rfl (by rfl) (.tmp 42) (.tmp 45) _ _ rfl _ underlying100 (by kernel_rfl) w1.heap.size 3 32 32 P rfl rfl _ _ HYU.out 32 (by rw [hP32]; rfl) (by rw [← HE0N.out]; omega) ?_
 intro u3 hw_u3
 have hBL1 : Below w1.heap.size w1 u3 := by rw [hw_u3.out]; exact AQ hBL0 nR _
 have hS1 : u3.cell? ⟨B, 4, none⟩ = some (.string P) := AB hBL1 hc4x1
 refine ⟨hS1, ?_⟩
 simp only [sq]
 have Tn : u3.heap[w1.heap.size]? = some (.cells E1 81 (0, 0)) := by rw [hw_u3.out, Hcopy.out]; exact AR HYU.out
 refine Wr.tkI 10 ?_ ?_ hS1 ?_
 rotate_left
 ·intro wq hSw
  have q0 := hSw
  go_simp
  rfl
 simp only [sq]
 refine Wr.tkI 11 ?_ ?_ hS1 ?_
 rotate_left
 ·intro wq hSw
  have q0 := hSw
  go_simp
  rfl
 simp only [sq]
 refine Wr.tkI 12 ?_ ?_ hS1 ?_
 rotate_left
 ·intro wq hSw
  have q0 := hSw
  go_simp
  rfl
 simp only [sq]
 refine Wr.tkI 13 ?_ ?_ hS1 ?_
 rotate_left
 ·intro wq hSw
  have q0 := hSw
  go_simp
  rfl
 simp only [sq]
 refine Wr.tkI 14 ?_ ?_ hS1 ?_
 rotate_left
 ·intro wq hSw
  have q0 := hSw
  go_simp
  rfl
 simp only [sq]
 refine Wr.tkI 15 ?_ ?_ hS1 ?_
 rotate_left
 ·intro wq hSw
  have q0 := hSw
  go_simp
  rfl
 simp only [sq]
 refine Wr.tkI 16 ?_ ?_ hS1 ?_
 rotate_left
 ·intro wq hSw
  have q0 := hSw
  go_simp
  rfl
 simp only [sq]
 refine Wr.tkI 17 ?_ ?_ hS1 ?_
 rotate_left
 ·intro wq hSw
  have q0 := hSw
  go_simp
  rfl
 simp only [sq]
 refine Wr.tkI 18 ?_ ?_ hS1 ?_
 rotate_left
 ·intro wq hSw
  have q0 := hSw
  go_simp
  rfl
 simp only [sq]
 refine Wr.Ab (i := 19) (by kernel_rfl) ?_
 refine WrC.OC rfl (by rfl) _ _ rfl w1.heap.size rfl _ E1 (0, 0) _ Tn underlying81 rfl HE1S.out ?_
 refine ⟨hS1, ?_⟩
 simp only [sq]
 refine Wr.Ab (i := 20) (by kernel_rfl) ?_
 refine BR rfl (by rfl) (by go_simp; all_goals (and_intros <;> rfl)) ?_
 refine (HC.out u3 (HV1.out.below hBL1)).mono ?_
 rintro e w2 ⟨rfl, WG⟩
 have hBL2 : Below w1.heap.size w1 w2 := hBL1.trans (WG.mono hBL1.size)
 have hS2 : w2.cell? ⟨B, 4, none⟩ = some (.string P) := AB hBL2 hc4x1
 refine ⟨_, rfl, ?_, ?_⟩
 ·exact hS2
 simp only [sq]
 have RN := (WG.block _ (AJ Tn)).trans Tn
 rcases HW'.out with ⟨hz, rfl, rfl⟩ | ⟨hz, rfl, hFZ⟩
 ·skip
  refine Wr.tkI 21 ?_ ?_ hS2 ?_
  rotate_left
  ·intro wq hSw
   have q0 := hSw
   go_simp
   rfl
  simp only [sq]
  refine Wr.tkI 22 ?_ ?_ hS2 ?_
  rotate_left
  ·intro wq hSw
   have q0 := hSw
   go_simp
   rfl
  simp only [sq]
  refine Wr.Ag (by kernel_rfl) (NoPanic.normal ?_) _
  have HY2 := lh RN
  have lY2 := AJ HY2.out
  have HX2 := lh ((hBL2.block _ lX1).trans HX1.out)
  have lX2 := AJ HX2.out
  have HBL2 := tbB HBL1 hBL2
  have HV2 := lh (HV1.out.below hBL2)
  have hc0x2 := AB hBL2 hc0x1
  have hc1x2 := AB hBL2 hc1x1
  have hc2x2 := AB hBL2 hc2x1
  have hc3x2 := AB hBL2 hc3x1
  have hc4x2 := AB hBL2 hc4x1
  have hc5x2 := AB hBL2 hc5x1
  go_wp2_with (first | (refine wpList_load_row rfl _ _ rfl w1.heap.size rfl _ F (0, 0) _ HY2.out underlying81 rfl HE1S.out ?_) | (refine AC rfl _ _ _ rfl w.heap.size F rfl rfl _ _ HX2.out HE1S.out HE1Z.out HE1O.out ?_) | fail)
  intro wf hwf
  go_wp2
  refine bodyPost_ret (v := .tuple #[.agg F, .int .i64 0]) (AU rfl _ _ w.heap.size 81 F (0, 0) _ rfl (by rw [hwf.out]; exact AR HX2.out) underlying81 rfl HE1S.out rfl) rfl ⟨rfl, by rw [hwf.out]; exact AQ HBL2.out nR _⟩
 ·skip
  obtain rfl : Z = F := hFZ.symm
  refine Wr.tkI 21 ?_ ?_ hS2 ?_
  rotate_left
  ·intro wq hSw
   have q0 := hSw
   go_simp
   rfl
  simp only [sq]
  refine Wr.tkI 22 ?_ ?_ hS2 ?_
  rotate_left
  ·intro wq hSw
   have q0 := hSw
   go_simp
   rfl
  simp only [sq]
  refine Wr.Ag (by kernel_rfl) (NoPanic.normal ?_) _
  have HY2 := lh RN
  have lY2 := AJ HY2.out
  have HX2 := lh ((hBL2.block _ lX1).trans HX1.out)
  have lX2 := AJ HX2.out
  have HBL2 := tbB HBL1 hBL2
  have HV2 := lh (HV1.out.below hBL2)
  have hc0x2 := AB hBL2 hc0x1
  have hc1x2 := AB hBL2 hc1x1
  have hc2x2 := AB hBL2 hc2x1
  have hc3x2 := AB hBL2 hc3x1
  have hc4x2 := AB hBL2 hc4x1
  have hc5x2 := AB hBL2 hc5x1
  go_wp2_with (first | (refine AC rfl _ _ _ rfl w.heap.size Z rfl (by rw [← HLIT.out]; rfl) _ _ HX2.out HZS.out rfl HZO.out ?_) | fail)
  intro wf hwf
  go_wp2
  refine bodyPost_ret (v := .tuple #[.agg Z, .int .i64 6]) (AU rfl _ _ w.heap.size 81 Z (0, 0) _ rfl (by rw [hwf.out]; exact AR HX2.out) underlying81 rfl HZS.out rfl) rfl ⟨rfl, by rw [hwf.out]; exact AQ HBL2.out nR _⟩
theorem EQ (w : World) (s : ByteArray) (hs : s.size ≤ 140737488351232) (hv : Am w) :
 Calls Tryz.prog 26 #[.string s] w (RB (entV (WireS.read (bl s))) w) := by
 obtain ⟨l, y, ha⟩ : ∃ l y, all (bl s) = (l, y) := ⟨_, _, rfl⟩
 by_cases h0 : y = 0
 ·subst h0
  by_cases h6 : l.length = 6
  ·match l, h6, ha with
   | [k, r, a, b, p, v], _, ha =>
     by_cases hk : k = EntS.mark
     ·subst hk
      rcases Nat.lt_trichotomy p.length 32 with h | h | h
      ·exact Gq w s hs hv ha h
      ·exact NN w s hs hv ha h
      ·exact NM w s hs hv ha h
     ·exact EB w s hs hv ha hk
  ·exact DY w s hs hv ha (.inr ⟨rfl, h6⟩)
 ·exact DY w s hs hv ha (.inl h0)
end Go.Proofs.YtceiajepcokacaaGreatDoor.WireB
