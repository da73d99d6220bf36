/-
  WHAT IS PROVED: contracts and plain laws. Condition: each names its own.
-/
import Derived.Test.YtceiajepcokacaaGreatDoorS0
import Derived.Test.YtceiajepcokacaaGreatDoorZH25
set_option linter.unusedVariables false
set_option linter.unusedSimpArgs false
set_option maxRecDepth 100000
set_option maxHeartbeats 4000000
namespace Go.Proofs.YtceiajepcokacaaGreatDoor.WireE
open Go.Proofs.Tryz
open Go Go.RowKit Go.Shelf OctetS IdentS EntS WireS OctG OctP OctQ OctA EventP EventC EntP WireT Steps Wr
def J4 (t : List UInt8) : Int := ((Ae t).1 : Nat)
theorem Jt {t : List UInt8} {n u : Nat} {y : Int} (h : Ae t = (n, u, y)) : J4 t = n := by unfold J4; rw [h]
theorem E5 {m n : Nat} {t : List UInt8} (h : small m t = some n) : J4 t = n := by
 unfold small at h
 split at h
 ·cases h; rfl
 ·cases h
theorem EO (w : World) (s : ByteArray) (hs : s.size ≤ maxLen) : Calls Tryz.prog 67 #[.string s] w (RB (.tuple #[.int .i64 (J4 (bl s)), .bool (small 4096 (bl s)).isSome]) w) := by
 obtain ⟨n, u, y, hg⟩ : ∃ n u y, Ae (bl s) = (n, u, y) := ⟨_, _, _, rfl⟩
 have hG := Ref1K.Bu w s hs hg
 have hnm := JL hg
 obtain ⟨b, hb⟩ := nXe ((small 4096 (bl s)).isSome)
 rw [← hb, Jt hg]
 have hcase : ((y == 0) = false ∧ b = false) ∨ (y = 0 ∧ ((u : Int) == (s.size : Int)) = false ∧ b = false) ∨ (y = 0 ∧ u = s.size ∧ decide ((n : Int) ≤ 4096) = false ∧ b = false) ∨ (y = 0 ∧ u = s.size ∧ decide ((n : Int) ≤ 4096) = true ∧ b = true) := by
  rw [hb]
  rcases Ei 4096 hg with ⟨h, h'⟩ | ⟨h, h1, h'⟩ | ⟨h, h1, h2, h3, h'⟩ | ⟨h, h1, h2, h3, h'⟩
  ·exact .inl ⟨by simpa using h, by rw [h']; rfl⟩
  ·exact .inr (.inl ⟨h, by rw [AP] at h1; simp; omega, by rw [h']; rfl⟩)
  ·exact .inr (.inr (.inl ⟨h, by rw [← AP]; exact h1, by simp; omega, by rw [h']; rfl⟩))
  ·exact .inr (.inr (.inr ⟨h, by rw [← AP]; exact h1, by simp; omega, by rw [h']; rfl⟩))
 have HG := lh hG
 clear hG hg hb
 unfold BC at hnm
 unfold maxLen at hs
 rcases hcase with ⟨hy, rfl⟩ | ⟨rfl, hy, rfl⟩ | ⟨rfl, rfl, hy, rfl⟩ | ⟨rfl, rfl, hy, rfl⟩
 all_goals
  go_enter func67, ntmps67
  go_wp2_with fail
  refine HG.out.mono ?_
  rintro e w1 ⟨rfl, hb⟩
  have Hb := lh hb
  clear hb
  go_wp2
  go_ret2
  exact ⟨rfl, Hb.out⟩
theorem DY (w : World) (s : ByteArray) (hs : s.size ≤ 140737488351232) {l : List (List UInt8)} {y : Int} (ha : all (bl s) = (l, y)) (hbad : y ≠ 0 ∨ (y = 0 ∧ l.length ≠ 6)) :
 Calls Tryz.prog 41 #[.string s] w (RB (entV (WireS.read (bl s))) w) := by
 have hA := fun w => Ref1A.Ca w s (by unfold maxLen; omega)
 unfold Bt at hA
 rw [ha] at hA
 have HALL := lh hA
 clear hA
 rw [read_bad ha (by omega)]
 show Calls _ _ _ w (RB (.tuple #[.agg entZ, .int .i64 6]) w)
 obtain ⟨Z, hZ⟩ := nXe (entZ)
 have HLIT : Hid (zq1 Z) := lh (by rw [hZ]; unfold zq1; kernel_rfl)
 have HZN : Hid (Z.size = 37) := lh (by rw [hZ]; kernel_rfl)
 have HZS : Hid ((Tryz.prog.info? 81).map (·.size) = some Z.size) := lh (by rw [hZ]; kernel_rfl)
 have HZO : Hid (Z.all (·.oneCell') = true) := lh (by rw [hZ]; exact Ba _ _ _ _ _ _)
 rw [← hZ]
 obtain ⟨w0, hw0⟩ := nXe (w.alloc (.cells Z 81))
 have hb0 : Below w.heap.size w w0 := by rw [hw0]; exact bAx
 have HX0 : Hid (w0.heap[w.heap.size]? = some (.cells Z 81 (0, 0))) := lh (by rw [hw0]; exact AL _ _)
 have lX0 := AJ HX0.out
 obtain ⟨HBL0, HW0⟩ := l2h hb0 hw0
 clear hw0 hb0 hZ
 have hcase : (y != 0) = true ∨ (y = 0 ∧ ((l.length : Int) != 6) = true) := by
  rcases hbad with h | ⟨h0, h⟩
  ·exact .inl (by simpa using h)
  ·exact .inr ⟨h0, by simp; omega⟩
 clear hbad ha
 rcases hcase with hy | ⟨rfl, hy⟩
 all_goals
  go_enter func41, ntmps41
  go_wp2_with fail
  rw [HLIT.out, ← HW0.out]
  refine (HALL.out w0).mono ?_
  rintro e w1 ⟨v, rfl, hl, hb⟩
  obtain ⟨av, cap, rfl, _, _⟩ := (Sl.ofOwn hl).form
  clear hl
  have HX1 := lh ((hb.block _ lX0).trans HX0.out)
  have lX1 := AJ HX1.out
  have HBL1 := tbB HBL0 hb
  clear hb 
  clear lX0
  go_wp2_with (first | (refine AC rfl _ _ _ rfl w.heap.size Z rfl (by rw [← HLIT.out]; rfl) _ _ HX1.out HZS.out rfl HZO.out ?_) | fail)
  intro wf hwf
  go_wp2
  refine bodyPost_ret (v := .tuple #[.agg Z, .int .i64 6]) (AU rfl _ _ w.heap.size 81 Z (0, 0) _ rfl (by rw [hwf.out]; exact AR HX1.out) underlying81 rfl HZS.out rfl) rfl ⟨rfl, by rw [hwf.out]; exact AQ HBL1.out nR _⟩
theorem EB (w : World) (s : ByteArray) (hs : s.size ≤ 140737488351232) {k r a b p v : List UInt8} (ha : all (bl s) = ([k, r, a, b, p, v], 0)) (hm : k ≠ EntS.mark) :
 Calls Tryz.prog 41 #[.string s] w (RB (entV (WireS.read (bl s))) w) := by
 have hA := fun w => Ref1A.Ca w s (by unfold maxLen; omega)
 unfold Bt at hA
 rw [ha] at hA
 have HALL := lh hA
 clear hA
 rw [read_mark ha hm]
 show Calls _ _ _ w (RB (.tuple #[.agg entZ, .int .i64 6]) w)
 obtain ⟨K, hK⟩ := nXe (bsOf k)
 have bK : bl K = k := by rw [hK, AV]
 have zK : K.size ≤ 8192 := by rw [hK]; exact Aa ha _ (by simp)
 have HK := lh hK
 have hkk : (K.toList == [101, 110, 116, 114, 121]) = false := by
  have h : (K.toList == (ByteArray.mk #[101, 110, 116, 114, 121]).toList) = false := ET (fun h => hm (by rw [← bK, h]; rfl))
  rw [BV (ByteArray.mk #[101, 110, 116, 114, 121])] at h
  exact h
 obtain ⟨Z, hZ⟩ := nXe (entZ)
 have HLIT : Hid (zq1 Z) := lh (by rw [hZ]; unfold zq1; kernel_rfl)
 have HZN : Hid (Z.size = 37) := lh (by rw [hZ]; kernel_rfl)
 have HZS : Hid ((Tryz.prog.info? 81).map (·.size) = some Z.size) := lh (by rw [hZ]; kernel_rfl)
 have HZO : Hid (Z.all (·.oneCell') = true) := lh (by rw [hZ]; exact Ba _ _ _ _ _ _)
 rw [← hZ]
 obtain ⟨w0, hw0⟩ := nXe (w.alloc (.cells Z 81))
 have hb0 : Below w.heap.size w w0 := by rw [hw0]; exact bAx
 have HX0 : Hid (w0.heap[w.heap.size]? = some (.cells Z 81 (0, 0))) := lh (by rw [hw0]; exact AL _ _)
 have lX0 := AJ HX0.out
 obtain ⟨HBL0, HW0⟩ := l2h hb0 hw0
 clear hw0 hb0 hZ
 clear hm ha hK bK
 go_enter func41, ntmps41
 go_wp2_with fail
 rw [HLIT.out, ← HW0.out]
 refine (HALL.out w0).mono ?_
 rintro e w1 ⟨v, rfl, hl, hb⟩
 obtain ⟨B, cap, rfl, hB, hc⟩ := Dc 6 hl rfl (by omega)
 clear hl
 have hc0_1 : w1.cell? ⟨B, 0, none⟩ = some (.string K) := by rw [HK.out]; exact hc 0 _ rfl
 have hBX : ¬ w.heap.size = B := by omega
 clear hc hB
 have HX1 := lh ((hb.block _ lX0).trans HX0.out)
 have lX1 := AJ HX1.out
 have HBL1 := tbB HBL0 hb
 clear hb 
 clear lX0
 have hc0x1 := hc0_1
 clear hc0_1
 go_wp2_with (first | (refine AC rfl _ _ _ rfl w.heap.size Z rfl (by rw [← HLIT.out]; rfl) _ _ HX1.out HZS.out rfl HZO.out ?_) | fail)
 intro wf hwf
 go_wp2
 refine bodyPost_ret (v := .tuple #[.agg Z, .int .i64 6]) (AU rfl _ _ w.heap.size 81 Z (0, 0) _ rfl (by rw [hwf.out]; exact AR HX1.out) underlying81 rfl HZS.out rfl) rfl ⟨rfl, by rw [hwf.out]; exact AQ HBL1.out nR _⟩
theorem JJ (w : World) (s : ByteArray) (hs : s.size ≤ 140737488351232) {r a b p v : List UInt8} (ha : all (bl s) = ([EntS.mark, r, a, b, p, v], 0)) (h3 : p.length ≠ 32) :
 Calls Tryz.prog 41 #[.string s] w (RB (entV (WireS.read (bl s))) w) := by
 have hA := fun w => Ref1A.Ca w s (by unfold maxLen; omega)
 unfold Bt at hA
 rw [ha] at hA
 have HALL := lh hA
 clear hA
 rw [J3 ha (.inl h3)]
 show Calls _ _ _ w (RB (.tuple #[.agg entZ, .int .i64 6]) w)
 obtain ⟨K, hK⟩ := nXe (bsOf EntS.mark)
 have bK : bl K = EntS.mark := by rw [hK, AV]
 have zK : K.size ≤ 8192 := by rw [hK]; exact Aa ha _ (by simp)
 have HK := lh hK
 obtain ⟨P, hP⟩ := nXe (bsOf p)
 have bP : bl P = p := by rw [hP, AV]
 have zP : P.size ≤ 8192 := by rw [hP]; exact Aa ha _ (by simp)
 have HP := lh hP
 have hkk : (K.toList == [101, 110, 116, 114, 121]) = true := by rw [hK, BV, AV]; rfl
 have hPn : ((P.size : Int) == 32) = false := by rw [hP, AY]; simp; omega
 have hPm : ((P.size : Int) != 32) = true := by rw [bne, hPn]; rfl
 obtain ⟨Z, hZ⟩ := nXe (entZ)
 have HLIT : Hid (zq1 Z) := lh (by rw [hZ]; unfold zq1; kernel_rfl)
 have HZN : Hid (Z.size = 37) := lh (by rw [hZ]; kernel_rfl)
 have HZS : Hid ((Tryz.prog.info? 81).map (·.size) = some Z.size) := lh (by rw [hZ]; kernel_rfl)
 have HZO : Hid (Z.all (·.oneCell') = true) := lh (by rw [hZ]; exact Ba _ _ _ _ _ _)
 rw [← hZ]
 obtain ⟨w0, hw0⟩ := nXe (w.alloc (.cells Z 81))
 have hb0 : Below w.heap.size w w0 := by rw [hw0]; exact bAx
 have HX0 : Hid (w0.heap[w.heap.size]? = some (.cells Z 81 (0, 0))) := lh (by rw [hw0]; exact AL _ _)
 have lX0 := AJ HX0.out
 obtain ⟨HBL0, HW0⟩ := l2h hb0 hw0
 clear hw0 hb0 hZ
 clear ha hK bK hP bP h3
 go_enter func41, ntmps41
 go_wp2_with fail
 rw [HLIT.out, ← HW0.out]
 refine (HALL.out w0).mono ?_
 rintro e w1 ⟨v, rfl, hl, hb⟩
 obtain ⟨B, cap, rfl, hB, hc⟩ := Dc 6 hl rfl (by omega)
 clear hl
 have hc0_1 : w1.cell? ⟨B, 0, none⟩ = some (.string K) := by rw [HK.out]; exact hc 0 _ rfl
 have hc4_1 : w1.cell? ⟨B, 4, none⟩ = some (.string P) := by rw [HP.out]; exact hc 4 _ rfl
 have hBX : ¬ w.heap.size = B := by omega
 clear hc hB
 have HX1 := lh ((hb.block _ lX0).trans HX0.out)
 have lX1 := AJ HX1.out
 have HBL1 := tbB HBL0 hb
 clear hb 
 clear lX0
 have hc0x1 := hc0_1
 clear hc0_1
 have hc4x1 := hc4_1
 clear hc4_1
 go_wp2_with (first | (refine AC rfl _ _ _ rfl w.heap.size Z rfl (by rw [← HLIT.out]; rfl) _ _ HX1.out HZS.out rfl HZO.out ?_) | fail)
 intro wf hwf
 go_wp2
 refine bodyPost_ret (v := .tuple #[.agg Z, .int .i64 6]) (AU rfl _ _ w.heap.size 81 Z (0, 0) _ rfl (by rw [hwf.out]; exact AR HX1.out) underlying81 rfl HZS.out rfl) rfl ⟨rfl, by rw [hwf.out]; exact AQ HBL1.out nR _⟩
theorem Ie (w : World) (s : ByteArray) (hs : s.size ≤ 140737488351232) {r a b p v : List UInt8} (ha : all (bl s) = ([EntS.mark, r, a, b, p, v], 0)) (h3 : p.length = 32) (hno : ((small 4096 a).isSome && (small 4096 b).isSome) = false) :
 Calls Tryz.prog 41 #[.string s] w (RB (entV (WireS.read (bl s))) w) := by
 have hA := fun w => Ref1A.Ca w s (by unfold maxLen; omega)
 unfold Bt at hA
 rw [ha] at hA
 have HALL := lh hA
 clear hA
 obtain ⟨K, hK⟩ := nXe (bsOf EntS.mark)
 have bK : bl K = EntS.mark := by rw [hK, AV]
 have zK : K.size ≤ 8192 := by rw [hK]; exact Aa ha _ (by simp)
 have HK := lh hK
 obtain ⟨R, hR⟩ := nXe (bsOf r)
 have bR : bl R = r := by rw [hR, AV]
 have zR : R.size ≤ 8192 := by rw [hR]; exact Aa ha _ (by simp)
 have HR := lh hR
 obtain ⟨A, hA⟩ := nXe (bsOf a)
 have bA : bl A = a := by rw [hA, AV]
 have zA : A.size ≤ 8192 := by rw [hA]; exact Aa ha _ (by simp)
 have HA := lh hA
 obtain ⟨D, hD⟩ := nXe (bsOf b)
 have bD : bl D = b := by rw [hD, AV]
 have zD : D.size ≤ 8192 := by rw [hD]; exact Aa ha _ (by simp)
 have HD := lh hD
 obtain ⟨P, hP⟩ := nXe (bsOf p)
 have bP : bl P = p := by rw [hP, AV]
 have zP : P.size ≤ 8192 := by rw [hP]; exact Aa ha _ (by simp)
 have HP := lh hP
 obtain ⟨V, hV⟩ := nXe (bsOf v)
 have bV : bl V = v := by rw [hV, AV]
 have zV : V.size ≤ 8192 := by rw [hV]; exact Aa ha _ (by simp)
 have HV := lh hV
 have hkk : (K.toList == [101, 110, 116, 114, 121]) = true := by rw [hK, BV, AV]; rfl
 have zP2 : P.size = p.length := by rw [hP, AY]
 obtain ⟨o1, ho1⟩ := nXe ((small 4096 a).isSome)
 obtain ⟨o2, ho2⟩ := nXe ((small 4096 b).isSome)
 obtain ⟨x, hx⟩ := nXe (J4 a)
 obtain ⟨y, hy⟩ := nXe (J4 b)
 have HN1 : Hid (∀ w, Calls Tryz.prog 67 #[.string A] w (RB (.tuple #[.int .i64 x, .bool o1]) w)) := lh (by rw [hx, ho1, ← bA]; exact fun w => EO w A (by unfold maxLen; omega))
 have HN2 : Hid (∀ w, Calls Tryz.prog 67 #[.string D] w (RB (.tuple #[.int .i64 y, .bool o2]) w)) := lh (by rw [hy, ho2, ← bD]; exact fun w => EO w D (by unfold maxLen; omega))
 have hcase : o1 = false ∨ (o1 = true ∧ o2 = false) := by
  rw [ho1, ho2]
  cases h1 : small 4096 a with
  | none => exact .inl rfl
  | some _ => cases h2 : small 4096 b with
    | none => exact .inr ⟨rfl, rfl⟩
    | some _ => rw [h1, h2] at hno; simp at hno
 have hn : WireS.read (bl s) = none := by
  apply J3 ha
  cases h1 : small 4096 a with
  | none => exact .inr (.inl rfl)
  | some _ => cases h2 : small 4096 b with
    | none => exact .inr (.inr rfl)
    | some _ => rw [h1, h2] at hno; simp at hno
 rw [hn]
 show Calls _ _ _ w (RB (.tuple #[.agg entZ, .int .i64 6]) w)
 clear hn hno
 obtain ⟨Z, hZ⟩ := nXe (entZ)
 have HLIT : Hid (zq1 Z) := lh (by rw [hZ]; unfold zq1; kernel_rfl)
 have HZN : Hid (Z.size = 37) := lh (by rw [hZ]; kernel_rfl)
 have HZS : Hid ((Tryz.prog.info? 81).map (·.size) = some Z.size) := lh (by rw [hZ]; kernel_rfl)
 have HZO : Hid (Z.all (·.oneCell') = true) := lh (by rw [hZ]; exact Ba _ _ _ _ _ _)
 rw [← hZ]
 obtain ⟨w0, hw0⟩ := nXe (w.alloc (.cells Z 81))
 have hb0 : Below w.heap.size w w0 := by rw [hw0]; exact bAx
 have HX0 : Hid (w0.heap[w.heap.size]? = some (.cells Z 81 (0, 0))) := lh (by rw [hw0]; exact AL _ _)
 have lX0 := AJ HX0.out
 obtain ⟨HBL0, HW0⟩ := l2h hb0 hw0
 clear hw0 hb0 hZ
 obtain ⟨E0, hE0⟩ := nXe (entA R x y Cg V ⟨#[]⟩)
 have hE0n : E0.size = 37 := by rw [hE0]; exact Dm (by first | rfl | assumption)
 have HE0S : Hid ((Tryz.prog.info? 81).map (·.size) = some E0.size) := lh (by rw [hE0n, ← HZN.out]; exact HZS.out)
 have HE0Z : Hid (Z.size = E0.size) := lh (by rw [hE0n, HZN.out])
 have HE0N : Hid (37 = E0.size) := lh hE0n.symm
 have HE0O : Hid (E0.all (·.oneCell') = true) := lh (by rw [hE0]; exact Ba _ _ _ _ _ _)
 have HE0 := lh hE0
 clear hE0n
 obtain ⟨E1, hE1⟩ := nXe (entA R x y p V ⟨#[]⟩)
 have hE1n : E1.size = 37 := by rw [hE1]; exact Dm (by first | rfl | assumption)
 have HE1S : Hid ((Tryz.prog.info? 81).map (·.size) = some E1.size) := lh (by rw [hE1n, ← HZN.out]; exact HZS.out)
 have HE1Z : Hid (Z.size = E1.size) := lh (by rw [hE1n, HZN.out])
 have HE1N : Hid (37 = E1.size) := lh hE1n.symm
 have HE1O : Hid (E1.all (·.oneCell') = true) := lh (by rw [hE1]; exact Ba _ _ _ _ _ _)
 have HE1 := lh hE1
 clear hE1n
 have hcopy : (E0.toList.take 3 ++ byV ((bl P).take 32) ++ E0.toList.drop (3 + 32)).toArray = E1 := by
  rw [hE0, hE1, bP]
  exact ent_copy _ _ _ Dz h3 _ _
 have Hcopy := lh hcopy
 clear hcopy
 have hP32 : P.size = 32 := by omega
 clear ha hx hy hK hR hA hD hP hV bK bR bA bD bP bV zP2 h3 hE0 hE1 ho1 ho2
 go_enter func41, ntmps41
 go_wp2_with fail
 rw [HLIT.out, ← HW0.out]
 refine (HALL.out w0).mono ?_
 rintro e w1 ⟨v, rfl, hl, hb⟩
 obtain ⟨B, cap, rfl, hB, hc⟩ := Dc 6 hl rfl (by omega)
 clear hl
 have hc0_1 : w1.cell? ⟨B, 0, none⟩ = some (.string K) := by rw [HK.out]; exact hc 0 _ rfl
 have hc1_1 : w1.cell? ⟨B, 1, none⟩ = some (.string R) := by rw [HR.out]; exact hc 1 _ rfl
 have hc2_1 : w1.cell? ⟨B, 2, none⟩ = some (.string A) := by rw [HA.out]; exact hc 2 _ rfl
 have hc3_1 : w1.cell? ⟨B, 3, none⟩ = some (.string D) := by rw [HD.out]; exact hc 3 _ rfl
 have hc4_1 : w1.cell? ⟨B, 4, none⟩ = some (.string P) := by rw [HP.out]; exact hc 4 _ rfl
 have hc5_1 : w1.cell? ⟨B, 5, none⟩ = some (.string V) := by rw [HV.out]; exact hc 5 _ rfl
 have hBX : ¬ w.heap.size = B := by omega
 clear hc hB
 have HX1 := lh ((hb.block _ lX0).trans HX0.out)
 have lX1 := AJ HX1.out
 have HBL1 := tbB HBL0 hb
 clear hb 
 clear lX0
 have hc0x1 := hc0_1
 clear hc0_1
 have hc1x1 := hc1_1
 clear hc1_1
 have hc2x1 := hc2_1
 clear hc2_1
 have hc3x1 := hc3_1
 clear hc3_1
 have hc4x1 := hc4_1
 clear hc4_1
 have hc5x1 := hc5_1
 clear hc5_1
 go_wp2_with fail
 refine (HN1.out w1).mono ?_
 rintro e w2 ⟨rfl, hb⟩
 have HX2 := lh ((hb.block _ lX1).trans HX1.out)
 have lX2 := AJ HX2.out
 have HBL2 := tbB HBL1 hb
 have hc0x2 := AB hb hc0x1
 have hc1x2 := AB hb hc1x1
 have hc2x2 := AB hb hc2x1
 have hc3x2 := AB hb hc3x1
 have hc4x2 := AB hb hc4x1
 have hc5x2 := AB hb hc5x1
 clear hb hc0x1 hc1x1 hc2x1 hc3x1 hc4x1 hc5x1
 clear lX1
 go_wp2_with fail
 refine (HN2.out w2).mono ?_
 rintro e w3 ⟨rfl, hb⟩
 have HX3 := lh ((hb.block _ lX2).trans HX2.out)
 have lX3 := AJ HX3.out
 have HBL3 := tbB HBL2 hb
 have hc0x3 := AB hb hc0x2
 have hc1x3 := AB hb hc1x2
 have hc2x3 := AB hb hc2x2
 have hc3x3 := AB hb hc3x2
 have hc4x3 := AB hb hc4x2
 have Ik := AB hb hc5x2
 clear hb hc0x2 hc1x2 hc2x2 hc3x2 hc4x2 hc5x2
 clear lX2
 go_wp2_with fail
 refine wp_region_noPanic ?_
 refine Wr.BI (S := (fun W => W.cell? ⟨B, 1, none⟩ = some (.string R) ∧ W.cell? ⟨B, 5, none⟩ = some (.string V))) (K := []) (by kernel_rfl) ?_
 change Wr.Ar _ _ _ _ _ _ _ _ _ (World.drew w3)
 have hBL0 : Below w3.heap.size w3 (World.drew w3) := Bl.drew (Below.refl _ _)
 have hS0 : (World.drew w3).cell? ⟨B, 1, none⟩ = some (.string R) ∧ (World.drew w3).cell? ⟨B, 5, none⟩ = some (.string V) := ⟨AB hBL0 hc1x3, AB hBL0 Ik⟩
 refine Wr.tkI 0 ?_ ?_ hS0 ?_
 rotate_left
 ·intro wq hSw
  obtain ⟨q0, q1⟩ := hSw
  go_simp
  rfl
 simp only [sq]
 refine Wr.tkI 1 ?_ ?_ hS0 ?_
 rotate_left
 ·intro wq hSw
  obtain ⟨q0, q1⟩ := hSw
  go_simp
  rfl
 simp only [sq]
 refine Wr.tkI 2 ?_ ?_ hS0 ?_
 rotate_left
 ·intro wq hSw
  obtain ⟨q0, q1⟩ := hSw
  go_simp
  rfl
 simp only [sq]
 refine Wr.tkI 3 ?_ ?_ hS0 ?_
 rotate_left
 ·intro wq hSw
  obtain ⟨q0, q1⟩ := hSw
  go_simp
  rfl
 simp only [sq]
 refine Wr.tkI 4 ?_ ?_ hS0 ?_
 rotate_left
 ·intro wq hSw
  obtain ⟨q0, q1⟩ := hSw
  go_simp
  rfl
 simp only [sq]
 refine Wr.tkI 5 ?_ ?_ hS0 ?_
 rotate_left
 ·intro wq hSw
  obtain ⟨q0, q1⟩ := hSw
  go_simp
  rfl
 simp only [sq]
 refine Wr.tkI 6 ?_ ?_ hS0 ?_
 rotate_left
 ·intro wq hSw
  obtain ⟨q0, q1⟩ := hSw
  go_simp
  rfl
 simp only [sq]
 refine Wr.tkI 7 ?_ ?_ hS0 ?_
 rotate_left
 ·intro wq hSw
  obtain ⟨q0, q1⟩ := hSw
  go_simp
  rfl
 simp only [sq]
 refine Wr.Ay (i := 8) (v := .agg E0) rfl (by kernel_rfl) (fun _ _ _ h => h) (WrC.Cb _ _ rfl (by rfl) E0 (by rw [HE0.out]; kernel_rfl)) hS0 ?_
 simp only [sq]
 refine Wr.Ab (i := 9) (by kernel_rfl) ?_
 refine Ap rfl (by rfl) (w' := (World.drew w3).alloc (.cells zl1 81)) (v := .pointer (some ⟨w3.heap.size, 0, none⟩)) (by go_simp; first | done | rfl) ?_
 obtain ⟨u1, hw_u1⟩ := nXe ((World.drew w3).alloc (.cells zl1 81))
 rw [← hw_u1]
 have hb_u1 : Below (World.drew w3).heap.size (World.drew w3) u1 := by rw [hw_u1]; exact bAx
 have hn_u1 : u1.heap[(World.drew w3).heap.size]? = some (.cells zl1 81 (0, 0)) := by rw [hw_u1]; exact Ad _ rfl
 have hBL1 : Below w3.heap.size w3 u1 := hBL0.trans (hb_u1.mono hBL0.size)
 have hS1 : u1.cell? ⟨B, 1, none⟩ = some (.string R) ∧ u1.cell? ⟨B, 5, none⟩ = some (.string V) := ⟨AB hBL1 hc1x3, AB hBL1 Ik⟩
 clear hw_u1
 refine ⟨hS1, ?_⟩
 simp only [sq]
 refine Wr.Ab (i := 10) (by kernel_rfl) ?_
 refine WrC.BM rfl (by rfl) _ _ _ rfl w3.heap.size E0 rfl rfl _ _ hn_u1 HE0S.out HE0N.out HE0O.out ?_
 intro u2 hw_u2
 have hBL2 : Below w3.heap.size w3 u2 := by rw [hw_u2.out]; exact AQ hBL1 nR _
 have hy_u2 : u2.heap[w3.heap.size]? = some (.cells E0 81 (0, 0)) := by rw [hw_u2.out]; exact AR hn_u1
 have hS2 : u2.cell? ⟨B, 1, none⟩ = some (.string R) ∧ u2.cell? ⟨B, 5, none⟩ = some (.string V) := ⟨AB hBL2 hc1x3, AB hBL2 Ik⟩
 clear hw_u2
 refine ⟨hS2, ?_⟩
 simp only [sq]
 refine Wr.Ag (by kernel_rfl) (NoPanic.normal ?_) _
 obtain ⟨HBU, HYU⟩ := l2h hBL2 hy_u2
 have lYU := AJ HYU.out
 clear hBL0 hS0 hBL1 hS1 hBL2 hS2 hn_u1 hb_u1
 go_wp2_with fail
 refine wp_region_noPanic ?_
 refine Wr.BI (S := (fun W => W.cell? ⟨B, 4, none⟩ = some (.string P))) (K := []) (by kernel_rfl) ?_
 change Wr.Ar _ _ _ _ _ _ _ _ _ (World.drew u2)
 have hBL0 : Below w3.heap.size w3 (World.drew u2) := Bl.drew HBU.out
 have hS0 : (World.drew u2).cell? ⟨B, 4, none⟩ = some (.string P) := AB hBL0 hc4x3
 refine Wr.tkI 0 ?_ ?_ hS0 ?_
 rotate_left
 ·intro wq hSw
  have q0 := hSw
  go_simp
  rfl
 simp only [sq]
 refine Wr.tkI 1 ?_ ?_ hS0 ?_
 rotate_left
 ·intro wq hSw
  have q0 := hSw
  go_simp
  rfl
 simp only [sq]
 refine Wr.tkI 2 ?_ ?_ hS0 ?_
 rotate_left
 ·intro wq hSw
  have q0 := hSw
  go_simp
  rfl
 simp only [sq]
 refine Wr.tkI 3 ?_ ?_ hS0 ?_
 rotate_left
 ·intro wq hSw
  have q0 := hSw
  go_simp
  rfl
 simp only [sq]
 refine Wr.tkI 4 ?_ ?_ hS0 ?_
 rotate_left
 ·intro wq hSw
  have q0 := hSw
  go_simp
  rfl
 simp only [sq]
 refine Wr.Ab (i := 5) (by kernel_rfl) ?_
 refine WrC.Be rfl (by rfl) (.tmp 61) (.tmp 64) _ _ rfl _ underlying100 (by kernel_rfl) w3.heap.size 3 32 32 P rfl rfl _ _ HYU.out 32 (by rw [hP32]; rfl) (by rw [← HE0N.out]; omega) ?_
 intro w4 hw_w4
 have hBL1 : Below w3.heap.size w3 w4 := by rw [hw_w4.out]; exact AQ hBL0 nR _
 have hS1 : w4.cell? ⟨B, 4, none⟩ = some (.string P) := AB hBL1 hc4x3
 refine ⟨hS1, ?_⟩
 simp only [sq]
 have I7 : w4.heap[w3.heap.size]? = some (.cells E1 81 (0, 0)) := by rw [hw_w4.out, Hcopy.out]; exact AR HYU.out
 refine Wr.Ag (by kernel_rfl) (NoPanic.normal ?_) _
 have HY4 := lh I7
 have lY4 := AJ HY4.out
 have HX4 := lh ((hBL1.block _ lX3).trans HX3.out)
 have lX4 := AJ HX4.out
 have HBL4 := tbB HBL3 hBL1
 have JC := AB hBL1 hc0x3
 have JB := AB hBL1 hc1x3
 have JA := AB hBL1 hc2x3
 have I9 := AB hBL1 hc3x3
 have I8 := AB hBL1 hc4x3
 have Km := AB hBL1 Ik
 rcases hcase with rfl | ⟨rfl, rfl⟩
 all_goals
  go_wp2_with (first | (refine AC rfl _ _ _ rfl w.heap.size Z rfl (by rw [← HLIT.out]; rfl) _ _ HX4.out HZS.out rfl HZO.out ?_) | fail)
  intro wf hwf
  go_wp2
  refine bodyPost_ret (v := .tuple #[.agg Z, .int .i64 6]) (AU rfl _ _ w.heap.size 81 Z (0, 0) _ rfl (by rw [hwf.out]; exact AR HX4.out) underlying81 rfl HZS.out rfl) rfl ⟨rfl, by rw [hwf.out]; exact AQ HBL4.out nR _⟩
theorem JI (w : World) (s : ByteArray) (hs : s.size ≤ 140737488351232) {r a b p v : List UInt8} (ha : all (bl s) = ([EntS.mark, r, a, b, p, v], 0)) (h3 : p.length = 32) (hy1 : (small 4096 a).isSome = true) (hy2 : (small 4096 b).isSome = true) :
 Calls Tryz.prog 41 #[.string s] w (RB (entV (WireS.read (bl s))) w) := by
 have hA := fun w => Ref1A.Ca w s (by unfold maxLen; omega)
 unfold Bt at hA
 rw [ha] at hA
 have HALL := lh hA
 clear hA
 obtain ⟨K, hK⟩ := nXe (bsOf EntS.mark)
 have bK : bl K = EntS.mark := by rw [hK, AV]
 have zK : K.size ≤ 8192 := by rw [hK]; exact Aa ha _ (by simp)
 have HK := lh hK
 obtain ⟨R, hR⟩ := nXe (bsOf r)
 have bR : bl R = r := by rw [hR, AV]
 have zR : R.size ≤ 8192 := by rw [hR]; exact Aa ha _ (by simp)
 have HR := lh hR
 obtain ⟨A, hA⟩ := nXe (bsOf a)
 have bA : bl A = a := by rw [hA, AV]
 have zA : A.size ≤ 8192 := by rw [hA]; exact Aa ha _ (by simp)
 have HA := lh hA
 obtain ⟨D, hD⟩ := nXe (bsOf b)
 have bD : bl D = b := by rw [hD, AV]
 have zD : D.size ≤ 8192 := by rw [hD]; exact Aa ha _ (by simp)
 have HD := lh hD
 obtain ⟨P, hP⟩ := nXe (bsOf p)
 have bP : bl P = p := by rw [hP, AV]
 have zP : P.size ≤ 8192 := by rw [hP]; exact Aa ha _ (by simp)
 have HP := lh hP
 obtain ⟨V, hV⟩ := nXe (bsOf v)
 have bV : bl V = v := by rw [hV, AV]
 have zV : V.size ≤ 8192 := by rw [hV]; exact Aa ha _ (by simp)
 have HV := lh hV
 have hkk : (K.toList == [101, 110, 116, 114, 121]) = true := by rw [hK, BV, AV]; rfl
 have zP2 : P.size = p.length := by rw [hP, AY]
 obtain ⟨o1, ho1⟩ := nXe ((small 4096 a).isSome)
 obtain ⟨o2, ho2⟩ := nXe ((small 4096 b).isSome)
 obtain ⟨x, hx⟩ := nXe (J4 a)
 obtain ⟨y, hy⟩ := nXe (J4 b)
 have HN1 : Hid (∀ w, Calls Tryz.prog 67 #[.string A] w (RB (.tuple #[.int .i64 x, .bool o1]) w)) := lh (by rw [hx, ho1, ← bA]; exact fun w => EO w A (by unfold maxLen; omega))
 have HN2 : Hid (∀ w, Calls Tryz.prog 67 #[.string D] w (RB (.tuple #[.int .i64 y, .bool o2]) w)) := lh (by rw [hy, ho2, ← bD]; exact fun w => EO w D (by unfold maxLen; omega))
 obtain ⟨xn, hxn⟩ := Option.isSome_iff_exists.1 hy1
 obtain ⟨yn, hyn⟩ := Option.isSome_iff_exists.1 hy2
 rw [E5 hxn] at hx
 rw [E5 hyn] at hy
 rw [hxn] at ho1
 rw [hyn] at ho2
 simp only [Option.isSome_some] at ho1 ho2
 subst ho1 ho2
 rw [Kc ha hxn hyn h3]
 rw [← hx, ← hy]
 obtain ⟨F, cz, cf, hF⟩ : ∃ (F : Array Value) (cz cf : Int), (if EntS.BD ⟨r, x, y, p, v, []⟩ = true then cz = 0 ∧ cf = 0 ∧ F = entA R x y p V ⟨#[]⟩ else cz = 2 ∧ cf = 6 ∧ F = entZ) := by
  split
  ·exact ⟨_, 0, 0, rfl, rfl, rfl⟩
  ·exact ⟨_, 2, 6, rfl, rfl, rfl⟩
 have hC0 : ∀ E1, E1 = entA R x y p V ⟨#[]⟩ → ∀ w, Calls Tryz.prog 68 #[.agg E1] w (RB (.int .i64 cz) w) := by
  intro E1 hE1 w
  have := EntR.Dw w E1 R x y p V ⟨#[]⟩ ⟨hE1, h3⟩ (by omega) (by unfold maxLen; omega) (Nat.zero_le _)
  rw [show Bp R x y p V ⟨#[]⟩ = ⟨r, x, y, p, v, []⟩ by simp [Bp, bR, bV]; rfl] at this
  by_cases hc : EntS.BD ⟨r, x, y, p, v, []⟩ = true
  ·rw [if_pos hc] at hF
   rw [hF.1]
   rw [hc] at this
   exact this
  ·rw [if_neg hc] at hF
   rw [hF.1]
   rw [Bool.not_eq_true] at hc
   rw [hc] at this
   exact this
 rw [show entV (if EntS.BD ⟨r, x, y, p, v, []⟩ = true then some ⟨r, x, y, p, v, []⟩ else none) = .tuple #[.agg F, .int .i64 cf] from by
  split at hF
  ·rename_i hc
   rw [if_pos hc, hF.2.1, hF.2.2, hR, hV]
   rfl
  ·rename_i hc
   rw [if_neg hc, hF.2.1, hF.2.2]
   rfl]
 have hW : (cz = 0 ∧ cf = 0 ∧ F = entA R x y p V ⟨#[]⟩) ∨ ((cz != 0) = true ∧ cf = 6 ∧ F = entZ) := by
  split at hF
  ·exact .inl hF
  ·exact .inr ⟨by rw [hF.1]; rfl, hF.2⟩
 clear hF hxn hyn hy1 hy2
 obtain ⟨Z', hZ'⟩ : ∃ Z, Z = entZ := ⟨_, rfl⟩
 rw [← hZ'] at hW
 obtain ⟨Z, hZ⟩ := nXe (entZ)
 have HLIT : Hid (zq1 Z) := lh (by rw [hZ]; unfold zq1; kernel_rfl)
 have HZN : Hid (Z.size = 37) := lh (by rw [hZ]; kernel_rfl)
 have HZS : Hid ((Tryz.prog.info? 81).map (·.size) = some Z.size) := lh (by rw [hZ]; kernel_rfl)
 have HZO : Hid (Z.all (·.oneCell') = true) := lh (by rw [hZ]; exact Ba _ _ _ _ _ _)
 try rw [← hZ]
 obtain ⟨w0, hw0⟩ := nXe (w.alloc (.cells Z 81))
 have hb0 : Below w.heap.size w w0 := by rw [hw0]; exact bAx
 have HX0 : Hid (w0.heap[w.heap.size]? = some (.cells Z 81 (0, 0))) := lh (by rw [hw0]; exact AL _ _)
 have lX0 := AJ HX0.out
 obtain ⟨HBL0, HW0⟩ := l2h hb0 hw0
 have hZZ : Z = Z' := by rw [hZ, hZ']
 subst hZZ
 clear hw0 hb0 hZ hZ'
 obtain ⟨E0, hE0⟩ := nXe (entA R x y Cg V ⟨#[]⟩)
 have hE0n : E0.size = 37 := by rw [hE0]; exact Dm (by first | rfl | assumption)
 have HE0S : Hid ((Tryz.prog.info? 81).map (·.size) = some E0.size) := lh (by rw [hE0n, ← HZN.out]; exact HZS.out)
 have HE0Z : Hid (Z.size = E0.size) := lh (by rw [hE0n, HZN.out])
 have HE0N : Hid (37 = E0.size) := lh hE0n.symm
 have HE0O : Hid (E0.all (·.oneCell') = true) := lh (by rw [hE0]; exact Ba _ _ _ _ _ _)
 have HE0 := lh hE0
 clear hE0n
 obtain ⟨E1, hE1⟩ := nXe (entA R x y p V ⟨#[]⟩)
 have hE1n : E1.size = 37 := by rw [hE1]; exact Dm (by first | rfl | assumption)
 have HE1S : Hid ((Tryz.prog.info? 81).map (·.size) = some E1.size) := lh (by rw [hE1n, ← HZN.out]; exact HZS.out)
 have HE1Z : Hid (Z.size = E1.size) := lh (by rw [hE1n, HZN.out])
 have HE1N : Hid (37 = E1.size) := lh hE1n.symm
 have HE1O : Hid (E1.all (·.oneCell') = true) := lh (by rw [hE1]; exact Ba _ _ _ _ _ _)
 have HE1 := lh hE1
 clear hE1n
 have HC := lh (hC0 E1 hE1)
 rw [← hE1] at hW
 have HW' := lh hW
 clear hC0 hW
 have hcopy : (E0.toList.take 3 ++ byV ((bl P).take 32) ++ E0.toList.drop (3 + 32)).toArray = E1 := by
  rw [hE0, hE1, bP]
  exact ent_copy _ _ _ Dz h3 _ _
 have Hcopy := lh hcopy
 clear hcopy
 have hP32 : P.size = 32 := by omega
 clear ha hx hy hK hR hA hD hP hV bK bR bA bD bP bV zP2 h3 hE0 hE1 
 go_enter func41, ntmps41
 go_wp2_with fail
 rw [HLIT.out, ← HW0.out]
 refine (HALL.out w0).mono ?_
 rintro e w1 ⟨v, rfl, hl, hb⟩
 obtain ⟨B, cap, rfl, hB, hc⟩ := Dc 6 hl rfl (by omega)
 clear hl
 have hc0_1 : w1.cell? ⟨B, 0, none⟩ = some (.string K) := by rw [HK.out]; exact hc 0 _ rfl
 have hc1_1 : w1.cell? ⟨B, 1, none⟩ = some (.string R) := by rw [HR.out]; exact hc 1 _ rfl
 have hc2_1 : w1.cell? ⟨B, 2, none⟩ = some (.string A) := by rw [HA.out]; exact hc 2 _ rfl
 have hc3_1 : w1.cell? ⟨B, 3, none⟩ = some (.string D) := by rw [HD.out]; exact hc 3 _ rfl
 have hc4_1 : w1.cell? ⟨B, 4, none⟩ = some (.string P) := by rw [HP.out]; exact hc 4 _ rfl
 have hc5_1 : w1.cell? ⟨B, 5, none⟩ = some (.string V) := by rw [HV.out]; exact hc 5 _ rfl
 have hBX : ¬ w.heap.size = B := by omega
 clear hc hB
 have HX1 := lh ((hb.block _ lX0).trans HX0.out)
 have lX1 := AJ HX1.out
 have HBL1 := tbB HBL0 hb
 clear hb 
 clear lX0
 have hc0x1 := hc0_1
 clear hc0_1
 have hc1x1 := hc1_1
 clear hc1_1
 have hc2x1 := hc2_1
 clear hc2_1
 have hc3x1 := hc3_1
 clear hc3_1
 have hc4x1 := hc4_1
 clear hc4_1
 have hc5x1 := hc5_1
 clear hc5_1
 go_wp2_with fail
 refine (HN1.out w1).mono ?_
 rintro e w2 ⟨rfl, hb⟩
 have HX2 := lh ((hb.block _ lX1).trans HX1.out)
 have lX2 := AJ HX2.out
 have HBL2 := tbB HBL1 hb
 have hc0x2 := AB hb hc0x1
 have hc1x2 := AB hb hc1x1
 have hc2x2 := AB hb hc2x1
 have hc3x2 := AB hb hc3x1
 have hc4x2 := AB hb hc4x1
 have hc5x2 := AB hb hc5x1
 clear hb hc0x1 hc1x1 hc2x1 hc3x1 hc4x1 hc5x1
 clear lX1
 go_wp2_with fail
 refine (HN2.out w2).mono ?_
 rintro e w3 ⟨rfl, hb⟩
 have HX3 := lh ((hb.block _ lX2).trans HX2.out)
 have lX3 := AJ HX3.out
 have HBL3 := tbB HBL2 hb
 have hc0x3 := AB hb hc0x2
 have hc1x3 := AB hb hc1x2
 have hc2x3 := AB hb hc2x2
 have hc3x3 := AB hb hc3x2
 have hc4x3 := AB hb hc4x2
 have Ik := AB hb hc5x2
 clear hb hc0x2 hc1x2 hc2x2 hc3x2 hc4x2 hc5x2
 clear lX2
 go_wp2_with fail
 refine wp_region_noPanic ?_
 refine Wr.BI (S := (fun W => W.cell? ⟨B, 1, none⟩ = some (.string R) ∧ W.cell? ⟨B, 5, none⟩ = some (.string V))) (K := []) (by kernel_rfl) ?_
 change Wr.Ar _ _ _ _ _ _ _ _ _ (World.drew w3)
 have hBL0 : Below w3.heap.size w3 (World.drew w3) := Bl.drew (Below.refl _ _)
 have hS0 : (World.drew w3).cell? ⟨B, 1, none⟩ = some (.string R) ∧ (World.drew w3).cell? ⟨B, 5, none⟩ = some (.string V) := ⟨AB hBL0 hc1x3, AB hBL0 Ik⟩
 refine Wr.tkI 0 ?_ ?_ hS0 ?_
 rotate_left
 ·intro wq hSw
  obtain ⟨q0, q1⟩ := hSw
  go_simp
  rfl
 simp only [sq]
 refine Wr.tkI 1 ?_ ?_ hS0 ?_
 rotate_left
 ·intro wq hSw
  obtain ⟨q0, q1⟩ := hSw
  go_simp
  rfl
 simp only [sq]
 refine Wr.tkI 2 ?_ ?_ hS0 ?_
 rotate_left
 ·intro wq hSw
  obtain ⟨q0, q1⟩ := hSw
  go_simp
  rfl
 simp only [sq]
 refine Wr.tkI 3 ?_ ?_ hS0 ?_
 rotate_left
 ·intro wq hSw
  obtain ⟨q0, q1⟩ := hSw
  go_simp
  rfl
 simp only [sq]
 refine Wr.tkI 4 ?_ ?_ hS0 ?_
 rotate_left
 ·intro wq hSw
  obtain ⟨q0, q1⟩ := hSw
  go_simp
  rfl
 simp only [sq]
 refine Wr.tkI 5 ?_ ?_ hS0 ?_
 rotate_left
 ·intro wq hSw
  obtain ⟨q0, q1⟩ := hSw
  go_simp
  rfl
 simp only [sq]
 refine Wr.tkI 6 ?_ ?_ hS0 ?_
 rotate_left
 ·intro wq hSw
  obtain ⟨q0, q1⟩ := hSw
  go_simp
  rfl
 simp only [sq]
 refine Wr.tkI 7 ?_ ?_ hS0 ?_
 rotate_left
 ·intro wq hSw
  obtain ⟨q0, q1⟩ := hSw
  go_simp
  rfl
 simp only [sq]
 refine Wr.Ay (i := 8) (v := .agg E0) rfl (by kernel_rfl) (fun _ _ _ h => h) (WrC.Cb _ _ rfl (by rfl) E0 (by rw [HE0.out]; kernel_rfl)) hS0 ?_
 simp only [sq]
 refine Wr.Ab (i := 9) (by kernel_rfl) ?_
 refine Ap rfl (by rfl) (w' := (World.drew w3).alloc (.cells zl1 81)) (v := .pointer (some ⟨w3.heap.size, 0, none⟩)) (by go_simp; first | done | rfl) ?_
 obtain ⟨u1, hw_u1⟩ := nXe ((World.drew w3).alloc (.cells zl1 81))
 rw [← hw_u1]
 have hb_u1 : Below (World.drew w3).heap.size (World.drew w3) u1 := by rw [hw_u1]; exact bAx
 have hn_u1 : u1.heap[(World.drew w3).heap.size]? = some (.cells zl1 81 (0, 0)) := by rw [hw_u1]; exact Ad _ rfl
 have hBL1 : Below w3.heap.size w3 u1 := hBL0.trans (hb_u1.mono hBL0.size)
 have hS1 : u1.cell? ⟨B, 1, none⟩ = some (.string R) ∧ u1.cell? ⟨B, 5, none⟩ = some (.string V) := ⟨AB hBL1 hc1x3, AB hBL1 Ik⟩
 clear hw_u1
 refine ⟨hS1, ?_⟩
 simp only [sq]
 refine Wr.Ab (i := 10) (by kernel_rfl) ?_
 refine WrC.BM rfl (by rfl) _ _ _ rfl w3.heap.size E0 rfl rfl _ _ hn_u1 HE0S.out HE0N.out HE0O.out ?_
 intro u2 hw_u2
 have hBL2 : Below w3.heap.size w3 u2 := by rw [hw_u2.out]; exact AQ hBL1 nR _
 have hy_u2 : u2.heap[w3.heap.size]? = some (.cells E0 81 (0, 0)) := by rw [hw_u2.out]; exact AR hn_u1
 have hS2 : u2.cell? ⟨B, 1, none⟩ = some (.string R) ∧ u2.cell? ⟨B, 5, none⟩ = some (.string V) := ⟨AB hBL2 hc1x3, AB hBL2 Ik⟩
 clear hw_u2
 refine ⟨hS2, ?_⟩
 simp only [sq]
 refine Wr.Ag (by kernel_rfl) (NoPanic.normal ?_) _
 obtain ⟨HBU, HYU⟩ := l2h hBL2 hy_u2
 have lYU := AJ HYU.out
 clear hBL0 hS0 hBL1 hS1 hBL2 hS2 hn_u1 hb_u1
 go_wp2_with fail
 refine wp_region_noPanic ?_
 refine Wr.BI (S := (fun W => W.cell? ⟨B, 4, none⟩ = some (.string P))) (K := []) (by kernel_rfl) ?_
 change Wr.Ar _ _ _ _ _ _ _ _ _ (World.drew u2)
 have hBL0 : Below w3.heap.size w3 (World.drew u2) := Bl.drew HBU.out
 have hS0 : (World.drew u2).cell? ⟨B, 4, none⟩ = some (.string P) := AB hBL0 hc4x3
 refine Wr.tkI 0 ?_ ?_ hS0 ?_
 rotate_left
 ·intro wq hSw
  have q0 := hSw
  go_simp
  rfl
 simp only [sq]
 refine Wr.tkI 1 ?_ ?_ hS0 ?_
 rotate_left
 ·intro wq hSw
  have q0 := hSw
  go_simp
  rfl
 simp only [sq]
 refine Wr.tkI 2 ?_ ?_ hS0 ?_
 rotate_left
 ·intro wq hSw
  have q0 := hSw
  go_simp
  rfl
 simp only [sq]
 refine Wr.tkI 3 ?_ ?_ hS0 ?_
 rotate_left
 ·intro wq hSw
  have q0 := hSw
  go_simp
  rfl
 simp only [sq]
 refine Wr.tkI 4 ?_ ?_ hS0 ?_
 rotate_left
 ·intro wq hSw
  have q0 := hSw
  go_simp
  rfl
 simp only [sq]
 refine Wr.Ab (i := 5) (by kernel_rfl) ?_
 refine WrC.Be rfl (by rfl) (.tmp 61) (.tmp 64) _ _ rfl _ underlying100 (by kernel_rfl) w3.heap.size 3 32 32 P rfl rfl _ _ HYU.out 32 (by rw [hP32]; rfl) (by rw [← HE0N.out]; omega) ?_
 intro w4 hw_w4
 have hBL1 : Below w3.heap.size w3 w4 := by rw [hw_w4.out]; exact AQ hBL0 nR _
 have hS1 : w4.cell? ⟨B, 4, none⟩ = some (.string P) := AB hBL1 hc4x3
 refine ⟨hS1, ?_⟩
 simp only [sq]
 have I7 : w4.heap[w3.heap.size]? = some (.cells E1 81 (0, 0)) := by rw [hw_w4.out, Hcopy.out]; exact AR HYU.out
 refine Wr.Ag (by kernel_rfl) (NoPanic.normal ?_) _
 have HY4 := lh I7
 have lY4 := AJ HY4.out
 have HX4 := lh ((hBL1.block _ lX3).trans HX3.out)
 have lX4 := AJ HX4.out
 have HBL4 := tbB HBL3 hBL1
 have JC := AB hBL1 hc0x3
 have JB := AB hBL1 hc1x3
 have JA := AB hBL1 hc2x3
 have I9 := AB hBL1 hc3x3
 have I8 := AB hBL1 hc4x3
 have Km := AB hBL1 Ik
 go_wp2_with (first | (refine BQ (by rfl) _ _ rfl w3.heap.size rfl _ E1 (0, 0) _ HY4.out underlying81 rfl HE1S.out ?_) | fail)
 refine (HC.out w4).mono ?_
 rintro e w5 ⟨rfl, hb⟩
 have HX5 := lh ((hb.block _ lX4).trans HX4.out)
 have lX5 := AJ HX5.out
 have HY5 := lh ((hb.block _ lY4).trans HY4.out)
 have lY5 := AJ HY5.out
 have HBL5 := tbB HBL4 hb
 have L8 := AB hb JC
 have Lx := AB hb JB
 have Lv := AB hb JA
 have Lu := AB hb I9
 have Lt := AB hb I8
 have Mk := AB hb Km
 clear hb JC JB JA I9 I8 Km
 clear lX4 lY4
 rcases HW'.out with ⟨hz, rfl, rfl⟩ | ⟨hz, rfl, hFZ⟩
 ·skip
  go_wp2_with (first | (refine wpList_load_row rfl _ _ rfl w3.heap.size rfl _ F (0, 0) _ HY5.out underlying81 rfl HE1S.out ?_) | (refine AC rfl _ _ _ rfl w.heap.size F rfl rfl _ _ HX5.out HE1S.out HE1Z.out HE1O.out ?_) | fail)
  intro wf hwf
  go_wp2
  refine bodyPost_ret (v := .tuple #[.agg F, .int .i64 0]) (AU rfl _ _ w.heap.size 81 F (0, 0) _ rfl (by rw [hwf.out]; exact AR HX5.out) underlying81 rfl HE1S.out rfl) rfl ⟨rfl, by rw [hwf.out]; exact AQ HBL5.out nR _⟩
 ·skip
  obtain rfl : Z = F := hFZ.symm
  go_wp2_with (first | (refine AC rfl _ _ _ rfl w.heap.size Z rfl (by rw [← HLIT.out]; rfl) _ _ HX5.out HZS.out rfl HZO.out ?_) | fail)
  intro wf hwf
  go_wp2
  refine bodyPost_ret (v := .tuple #[.agg Z, .int .i64 6]) (AU rfl _ _ w.heap.size 81 Z (0, 0) _ rfl (by rw [hwf.out]; exact AR HX5.out) underlying81 rfl HZS.out rfl) rfl ⟨rfl, by rw [hwf.out]; exact AQ HBL5.out nR _⟩
theorem EQ (w : World) (s : ByteArray) (hs : s.size ≤ 140737488351232) :
 Calls Tryz.prog 41 #[.string s] w (RB (entV (WireS.read (bl s))) w) := by
 obtain ⟨l, y, ha⟩ : ∃ l y, all (bl s) = (l, y) := ⟨_, _, rfl⟩
 by_cases h0 : y = 0
 ·subst h0
  by_cases h6 : l.length = 6
  ·match l, h6, ha with
   | [k, r, a, b, p, v], _, ha =>
     by_cases hk : k = EntS.mark
     ·subst hk
      by_cases h3 : p.length = 32
      ·cases h1 : (small 4096 a).isSome with
       | false => exact Ie w s hs ha h3 (by rw [h1]; rfl)
       | true =>
         cases h2 : (small 4096 b).isSome with
         | false => exact Ie w s hs ha h3 (by rw [h1, h2]; rfl)
         | true => exact JI w s hs ha h3 h1 h2
      ·exact JJ w s hs ha h3
     ·exact EB w s hs ha hk
  ·exact DY w s hs ha (.inr ⟨rfl, h6⟩)
 ·exact DY w s hs ha (.inl h0)
end Go.Proofs.YtceiajepcokacaaGreatDoor.WireE
