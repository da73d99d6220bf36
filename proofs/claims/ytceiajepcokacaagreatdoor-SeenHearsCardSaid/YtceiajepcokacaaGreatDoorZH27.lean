/-
  WHAT IS PROVED: contracts and plain laws. Condition: each names its own.
-/
import Derived.Test.YtceiajepcokacaaGreatDoorS0
import Derived.Test.YtceiajepcokacaaGreatDoorZHF16
import Derived.Test.YtceiajepcokacaaGreatDoorZH26
set_option linter.unusedVariables false
set_option linter.unusedSimpArgs false
set_option maxRecDepth 100000
set_option maxHeartbeats 4000000
namespace Go.Proofs.YtceiajepcokacaaGreatDoor
open Go.Proofs.Tryz
namespace WireF
open Go Go.RowKit Go.Shelf OctetS IdentS EntS WireS OctG OctP OctQ OctA EventP EventC EntP WireT Steps Wr
open WireE (J4 Jt E5)
open WireC (chkH_eq)
theorem Ku (w : World) (p : Array Value) (r : ByteArray) (ep ix : Int) (pv : List UInt8) (s : ByteArray) (hp : HdP p r ep ix pv s) (hr : r.size ≤ 140737488351232) (hs : s.size ≤ maxLen) :
 Calls Tryz.prog 71 #[.agg p] w (RB (.int .i64 (CW (CS (hdOf r ep ix pv s)))) w) := by
 unfold maxLen at hs
 rw [chkH_eq]
 obtain ⟨rn, hR⟩ := EvRC.IA r hr
 obtain ⟨rb, hrb⟩ := nXe (DF (bl r))
 rw [← hrb] at hR ⊢
 clear hrb
 obtain ⟨y, hy⟩ := nXe (CW (rb && (Bj ep && (Bj ix && decide (s.size ≤ 8192)))))
 rw [← hy]
 have Hy0 := lh hy
 clear hy
 have p0 := hp.c0
 have p1 := hp.c1
 have p2 := hp.c2
 have p35 := hp.c35
 obtain ⟨w0, hw0⟩ := nXe (w.alloc (.cells p 46))
 have hb0 : Below w.heap.size w w0 := by rw [hw0]; exact ((Below.refl _ w).alloc nR _)
 have hx0 : w0.heap[w.heap.size]? = some (.cells p 46 (0, 0)) := by rw [hw0]; exact AL _ _
 obtain ⟨HBL0, HW0⟩ := l2h hb0 hw0
 have lx0 := AJ hx0
 obtain ⟨cx0, fx0⟩ := AA hx0
 have HR := lh hR
 clear hR hb0 hw0 hr hp
 have hcase : rb = false ∨ rb = true := by cases rb <;> simp
 rcases hcase with rfl | rfl
 all_goals
  go_enter func71, ntmps71
  go_wp2_with fail
  rw [← HW0.out]
  refine (HR.out w0).mono ?_
  rintro e w1 ⟨rfl, hb⟩
  have HBL1 := tbB HBL0 hb
  have hx1 := (hb.block _ lx0).trans hx0
  have lx1 := AJ hx1
  obtain ⟨cx1, fx1⟩ := AA hx1
  clear hb hx0 cx0 fx0
 ·go_wp2
  go_ret
  exact ⟨by rw [Hy0.out]; rfl, HBL1.out⟩
 ·have hy' : (0 ≤ ep ∧ ep ≤ 4096 ∧ 0 ≤ ix ∧ ix ≤ 4096 ∧ s.size ≤ 8192 ∧ y = 0) ∨ (¬ (0 ≤ ep ∧ ep ≤ 4096 ∧ 0 ≤ ix ∧ ix ≤ 4096 ∧ s.size ≤ 8192) ∧ y = 2) := by
   rw [Hy0.out]
   unfold CW Bj
   simp only [Bool.true_and, Bool.and_eq_true, decide_eq_true_eq]
   by_cases h : 0 ≤ ep ∧ ep ≤ 4096 ∧ 0 ≤ ix ∧ ix ≤ 4096 ∧ s.size ≤ 8192
   ·rw [if_pos ⟨⟨h.1, h.2.1⟩, ⟨h.2.2.1, h.2.2.2.1⟩, h.2.2.2.2⟩]
    exact .inl ⟨h.1, h.2.1, h.2.2.1, h.2.2.2.1, h.2.2.2.2, rfl⟩
   ·rw [if_neg (fun h' => h ⟨h'.1.1, h'.1.2, h'.2.1.1, h'.2.1.2, h'.2.2⟩)]
    exact .inr ⟨h, rfl⟩
  have Hy := lh hy'
  clear hy'
  go_wp2
  all_goals
   go_ret
   refine ⟨?_, HBL1.out⟩
   have hy := Hy.out
   first
        | (obtain rfl : y = 0 := by omega
           rfl)
        | (obtain rfl : y = 2 := by omega
           rfl)
theorem EO (w : World) (s : ByteArray) (hs : s.size ≤ maxLen) : Calls Tryz.prog 70 #[.string s] w (RB (.tuple #[.int .i64 (J4 (bl s)), .bool (small 4096 (bl s)).isSome]) w) := by
 obtain ⟨n, u, y, hg⟩ : ∃ n u y, Ae (bl s) = (n, u, y) := ⟨_, _, _, rfl⟩
 have hG := Ref1K.Bu w s hs hg
 have hnm := JL hg
 obtain ⟨b, hb⟩ := nXe ((small 4096 (bl s)).isSome)
 rw [← hb, Jt hg]
 have hcase : ((y == 0) = false ∧ b = false) ∨ (y = 0 ∧ ((u : Int) == (s.size : Int)) = false ∧ b = false) ∨ (y = 0 ∧ u = s.size ∧ decide ((n : Int) ≤ 4096) = false ∧ b = false) ∨ (y = 0 ∧ u = s.size ∧ decide ((n : Int) ≤ 4096) = true ∧ b = true) := by
  rw [hb]
  rcases Ei 4096 hg with ⟨h, h'⟩ | ⟨h, h1, h'⟩ | ⟨h, h1, h2, h3, h'⟩ | ⟨h, h1, h2, h3, h'⟩
  ·exact .inl ⟨by simpa using h, by rw [h']; rfl⟩
  ·exact .inr (.inl ⟨h, by rw [AP] at h1; simp; omega, by rw [h']; rfl⟩)
  ·exact .inr (.inr (.inl ⟨h, by rw [← AP]; exact h1, by simp; omega, by rw [h']; rfl⟩))
  ·exact .inr (.inr (.inr ⟨h, by rw [← AP]; exact h1, by simp; omega, by rw [h']; rfl⟩))
 have HG := lh hG
 clear hG hg hb
 unfold BC at hnm
 unfold maxLen at hs
 rcases hcase with ⟨hy, rfl⟩ | ⟨rfl, hy, rfl⟩ | ⟨rfl, rfl, hy, rfl⟩ | ⟨rfl, rfl, hy, rfl⟩
 all_goals
  go_enter func70, ntmps70
  go_wp2_with fail
  refine HG.out.mono ?_
  rintro e w1 ⟨rfl, hb⟩
  have Hb := lh hb
  clear hb
  go_wp2
  go_ret2
  exact ⟨rfl, Hb.out⟩
theorem DY (w : World) (s : ByteArray) (hs : s.size ≤ 140737488351232) {l : List (List UInt8)} {y : Int} (ha : all (bl s) = (l, y)) (hbad : y ≠ 0 ∨ (y = 0 ∧ l.length ≠ 5)) :
 Calls Tryz.prog 43 #[.string s] w (RB (hdV (Cc (bl s))) w) := by
 have hA := fun w => Ref1A.Ca w s (by unfold maxLen; omega)
 unfold Bt at hA
 rw [ha] at hA
 have HALL := lh hA
 clear hA
 rw [readH_bad ha (by omega)]
 show Calls _ _ _ w (RB (.tuple #[.agg hdZ, .int .i64 6]) w)
 obtain ⟨Z, hZ⟩ := nXe (hdZ)
 have HLIT : Hid (zq2 Z) := lh (by rw [hZ]; unfold zq2; kernel_rfl)
 have HZN : Hid (Z.size = 36) := lh (by rw [hZ]; kernel_rfl)
 have HZS : Hid ((Tryz.prog.info? 46).map (·.size) = some Z.size) := lh (by rw [hZ]; kernel_rfl)
 have HZO : Hid (Z.all (·.oneCell') = true) := lh (by rw [hZ]; exact Av _ _ _ _ _)
 rw [← hZ]
 obtain ⟨w0, hw0⟩ := nXe (w.alloc (.cells Z 46))
 have hb0 : Below w.heap.size w w0 := by rw [hw0]; exact bAx
 have HX0 : Hid (w0.heap[w.heap.size]? = some (.cells Z 46 (0, 0))) := lh (by rw [hw0]; exact AL _ _)
 have lX0 := AJ HX0.out
 obtain ⟨HBL0, HW0⟩ := l2h hb0 hw0
 clear hw0 hb0 hZ
 have hcase : (y != 0) = true ∨ (y = 0 ∧ ((l.length : Int) != 5) = true) := by
  rcases hbad with h | ⟨h0, h⟩
  ·exact .inl (by simpa using h)
  ·exact .inr ⟨h0, by simp; omega⟩
 clear hbad ha
 rcases hcase with hy | ⟨rfl, hy⟩
 all_goals
  go_enter func43, ntmps43
  go_wp2_with fail
  rw [HLIT.out, ← HW0.out]
  refine (HALL.out w0).mono ?_
  rintro e w1 ⟨v, rfl, hl, hb⟩
  obtain ⟨av, cap, rfl, _, _⟩ := (Sl.ofOwn hl).form
  clear hl
  have HX1 := lh ((hb.block _ lX0).trans HX0.out)
  have lX1 := AJ HX1.out
  have HBL1 := tbB HBL0 hb
  clear hb 
  clear lX0
  go_wp2_with (first | (refine AC rfl _ _ _ rfl w.heap.size Z rfl (by rw [← HLIT.out]; rfl) _ _ HX1.out HZS.out rfl HZO.out ?_) | fail)
  intro wf hwf
  go_wp2
  refine bodyPost_ret (v := .tuple #[.agg Z, .int .i64 6]) (AU rfl _ _ w.heap.size 46 Z (0, 0) _ rfl (by rw [hwf.out]; exact AR HX1.out) underlying46 rfl HZS.out rfl) rfl ⟨rfl, by rw [hwf.out]; exact AQ HBL1.out nR _⟩
theorem EB (w : World) (s : ByteArray) (hs : s.size ≤ 140737488351232) {k r a b p : List UInt8} (ha : all (bl s) = ([k, r, a, b, p], 0)) (hm : k ≠ CL) :
 Calls Tryz.prog 43 #[.string s] w (RB (hdV (Cc (bl s))) w) := by
 have hA := fun w => Ref1A.Ca w s (by unfold maxLen; omega)
 unfold Bt at hA
 rw [ha] at hA
 have HALL := lh hA
 clear hA
 rw [readH_mark ha hm]
 show Calls _ _ _ w (RB (.tuple #[.agg hdZ, .int .i64 6]) w)
 obtain ⟨K, hK⟩ := nXe (bsOf k)
 have bK : bl K = k := by rw [hK, AV]
 have zK : K.size ≤ 8192 := by rw [hK]; exact Aa ha _ (by simp)
 have HK := lh hK
 have hkk : (K.toList == [104, 101, 97, 100]) = false := by
  have h : (K.toList == (ByteArray.mk #[104, 101, 97, 100]).toList) = false := ET (fun h => hm (by rw [← bK, h]; rfl))
  rw [BV (ByteArray.mk #[104, 101, 97, 100])] at h
  exact h
 obtain ⟨Z, hZ⟩ := nXe (hdZ)
 have HLIT : Hid (zq2 Z) := lh (by rw [hZ]; unfold zq2; kernel_rfl)
 have HZN : Hid (Z.size = 36) := lh (by rw [hZ]; kernel_rfl)
 have HZS : Hid ((Tryz.prog.info? 46).map (·.size) = some Z.size) := lh (by rw [hZ]; kernel_rfl)
 have HZO : Hid (Z.all (·.oneCell') = true) := lh (by rw [hZ]; exact Av _ _ _ _ _)
 rw [← hZ]
 obtain ⟨w0, hw0⟩ := nXe (w.alloc (.cells Z 46))
 have hb0 : Below w.heap.size w w0 := by rw [hw0]; exact bAx
 have HX0 : Hid (w0.heap[w.heap.size]? = some (.cells Z 46 (0, 0))) := lh (by rw [hw0]; exact AL _ _)
 have lX0 := AJ HX0.out
 obtain ⟨HBL0, HW0⟩ := l2h hb0 hw0
 clear hw0 hb0 hZ
 clear hm ha hK bK
 go_enter func43, ntmps43
 go_wp2_with fail
 rw [HLIT.out, ← HW0.out]
 refine (HALL.out w0).mono ?_
 rintro e w1 ⟨v, rfl, hl, hb⟩
 obtain ⟨B, cap, rfl, hB, hc⟩ := Dc 5 hl rfl (by omega)
 clear hl
 have hc0_1 : w1.cell? ⟨B, 0, none⟩ = some (.string K) := by rw [HK.out]; exact hc 0 _ rfl
 have hBX : ¬ w.heap.size = B := by omega
 clear hc hB
 have HX1 := lh ((hb.block _ lX0).trans HX0.out)
 have lX1 := AJ HX1.out
 have HBL1 := tbB HBL0 hb
 clear hb 
 clear lX0
 have hc0x1 := hc0_1
 clear hc0_1
 go_wp2_with (first | (refine AC rfl _ _ _ rfl w.heap.size Z rfl (by rw [← HLIT.out]; rfl) _ _ HX1.out HZS.out rfl HZO.out ?_) | fail)
 intro wf hwf
 go_wp2
 refine bodyPost_ret (v := .tuple #[.agg Z, .int .i64 6]) (AU rfl _ _ w.heap.size 46 Z (0, 0) _ rfl (by rw [hwf.out]; exact AR HX1.out) underlying46 rfl HZS.out rfl) rfl ⟨rfl, by rw [hwf.out]; exact AQ HBL1.out nR _⟩
theorem JJ (w : World) (s : ByteArray) (hs : s.size ≤ 140737488351232) {r a b p : List UInt8} (ha : all (bl s) = ([CL, r, a, b, p], 0)) (h3 : p.length ≠ 32) :
 Calls Tryz.prog 43 #[.string s] w (RB (hdV (Cc (bl s))) w) := by
 have hA := fun w => Ref1A.Ca w s (by unfold maxLen; omega)
 unfold Bt at hA
 rw [ha] at hA
 have HALL := lh hA
 clear hA
 rw [JZ ha (.inl h3)]
 show Calls _ _ _ w (RB (.tuple #[.agg hdZ, .int .i64 6]) w)
 obtain ⟨K, hK⟩ := nXe (bsOf CL)
 have bK : bl K = CL := by rw [hK, AV]
 have zK : K.size ≤ 8192 := by rw [hK]; exact Aa ha _ (by simp)
 have HK := lh hK
 obtain ⟨P, hP⟩ := nXe (bsOf p)
 have bP : bl P = p := by rw [hP, AV]
 have zP : P.size ≤ 8192 := by rw [hP]; exact Aa ha _ (by simp)
 have HP := lh hP
 have hkk : (K.toList == [104, 101, 97, 100]) = true := by rw [hK, BV, AV]; rfl
 have hPn : ((P.size : Int) == 32) = false := by rw [hP, AY]; simp; omega
 have hPm : ((P.size : Int) != 32) = true := by rw [bne, hPn]; rfl
 obtain ⟨Z, hZ⟩ := nXe (hdZ)
 have HLIT : Hid (zq2 Z) := lh (by rw [hZ]; unfold zq2; kernel_rfl)
 have HZN : Hid (Z.size = 36) := lh (by rw [hZ]; kernel_rfl)
 have HZS : Hid ((Tryz.prog.info? 46).map (·.size) = some Z.size) := lh (by rw [hZ]; kernel_rfl)
 have HZO : Hid (Z.all (·.oneCell') = true) := lh (by rw [hZ]; exact Av _ _ _ _ _)
 rw [← hZ]
 obtain ⟨w0, hw0⟩ := nXe (w.alloc (.cells Z 46))
 have hb0 : Below w.heap.size w w0 := by rw [hw0]; exact bAx
 have HX0 : Hid (w0.heap[w.heap.size]? = some (.cells Z 46 (0, 0))) := lh (by rw [hw0]; exact AL _ _)
 have lX0 := AJ HX0.out
 obtain ⟨HBL0, HW0⟩ := l2h hb0 hw0
 clear hw0 hb0 hZ
 clear ha hK bK hP bP h3
 go_enter func43, ntmps43
 go_wp2_with fail
 rw [HLIT.out, ← HW0.out]
 refine (HALL.out w0).mono ?_
 rintro e w1 ⟨v, rfl, hl, hb⟩
 obtain ⟨B, cap, rfl, hB, hc⟩ := Dc 5 hl rfl (by omega)
 clear hl
 have hc0_1 : w1.cell? ⟨B, 0, none⟩ = some (.string K) := by rw [HK.out]; exact hc 0 _ rfl
 have hc4_1 : w1.cell? ⟨B, 4, none⟩ = some (.string P) := by rw [HP.out]; exact hc 4 _ rfl
 have hBX : ¬ w.heap.size = B := by omega
 clear hc hB
 have HX1 := lh ((hb.block _ lX0).trans HX0.out)
 have lX1 := AJ HX1.out
 have HBL1 := tbB HBL0 hb
 clear hb 
 clear lX0
 have hc0x1 := hc0_1
 clear hc0_1
 have hc4x1 := hc4_1
 clear hc4_1
 go_wp2_with (first | (refine AC rfl _ _ _ rfl w.heap.size Z rfl (by rw [← HLIT.out]; rfl) _ _ HX1.out HZS.out rfl HZO.out ?_) | fail)
 intro wf hwf
 go_wp2
 refine bodyPost_ret (v := .tuple #[.agg Z, .int .i64 6]) (AU rfl _ _ w.heap.size 46 Z (0, 0) _ rfl (by rw [hwf.out]; exact AR HX1.out) underlying46 rfl HZS.out rfl) rfl ⟨rfl, by rw [hwf.out]; exact AQ HBL1.out nR _⟩
theorem Ie (w : World) (s : ByteArray) (hs : s.size ≤ 140737488351232) {r a b p : List UInt8} (ha : all (bl s) = ([CL, r, a, b, p], 0)) (h3 : p.length = 32) (hno : ((small 4096 a).isSome && (small 4096 b).isSome) = false) :
 Calls Tryz.prog 43 #[.string s] w (RB (hdV (Cc (bl s))) w) := by
 have hA := fun w => Ref1A.Ca w s (by unfold maxLen; omega)
 unfold Bt at hA
 rw [ha] at hA
 have HALL := lh hA
 clear hA
 obtain ⟨K, hK⟩ := nXe (bsOf CL)
 have bK : bl K = CL := by rw [hK, AV]
 have zK : K.size ≤ 8192 := by rw [hK]; exact Aa ha _ (by simp)
 have HK := lh hK
 obtain ⟨R, hR⟩ := nXe (bsOf r)
 have bR : bl R = r := by rw [hR, AV]
 have zR : R.size ≤ 8192 := by rw [hR]; exact Aa ha _ (by simp)
 have HR := lh hR
 obtain ⟨A, hA⟩ := nXe (bsOf a)
 have bA : bl A = a := by rw [hA, AV]
 have zA : A.size ≤ 8192 := by rw [hA]; exact Aa ha _ (by simp)
 have HA := lh hA
 obtain ⟨D, hD⟩ := nXe (bsOf b)
 have bD : bl D = b := by rw [hD, AV]
 have zD : D.size ≤ 8192 := by rw [hD]; exact Aa ha _ (by simp)
 have HD := lh hD
 obtain ⟨P, hP⟩ := nXe (bsOf p)
 have bP : bl P = p := by rw [hP, AV]
 have zP : P.size ≤ 8192 := by rw [hP]; exact Aa ha _ (by simp)
 have HP := lh hP
 have hkk : (K.toList == [104, 101, 97, 100]) = true := by rw [hK, BV, AV]; rfl
 have zP2 : P.size = p.length := by rw [hP, AY]
 obtain ⟨o1, ho1⟩ := nXe ((small 4096 a).isSome)
 obtain ⟨o2, ho2⟩ := nXe ((small 4096 b).isSome)
 obtain ⟨x, hx⟩ := nXe (J4 a)
 obtain ⟨y, hy⟩ := nXe (J4 b)
 have HN1 : Hid (∀ w, Calls Tryz.prog 70 #[.string A] w (RB (.tuple #[.int .i64 x, .bool o1]) w)) := lh (by rw [hx, ho1, ← bA]; exact fun w => EO w A (by unfold maxLen; omega))
 have HN2 : Hid (∀ w, Calls Tryz.prog 70 #[.string D] w (RB (.tuple #[.int .i64 y, .bool o2]) w)) := lh (by rw [hy, ho2, ← bD]; exact fun w => EO w D (by unfold maxLen; omega))
 have hcase : o1 = false ∨ (o1 = true ∧ o2 = false) := by
  rw [ho1, ho2]
  cases h1 : small 4096 a with
  | none => exact .inl rfl
  | some _ => cases h2 : small 4096 b with
    | none => exact .inr ⟨rfl, rfl⟩
    | some _ => rw [h1, h2] at hno; simp at hno
 have hn : Cc (bl s) = none := by
  apply JZ ha
  cases h1 : small 4096 a with
  | none => exact .inr (.inl rfl)
  | some _ => cases h2 : small 4096 b with
    | none => exact .inr (.inr rfl)
    | some _ => rw [h1, h2] at hno; simp at hno
 rw [hn]
 show Calls _ _ _ w (RB (.tuple #[.agg hdZ, .int .i64 6]) w)
 clear hn hno
 obtain ⟨Z, hZ⟩ := nXe (hdZ)
 have HLIT : Hid (zq2 Z) := lh (by rw [hZ]; unfold zq2; kernel_rfl)
 have HZN : Hid (Z.size = 36) := lh (by rw [hZ]; kernel_rfl)
 have HZS : Hid ((Tryz.prog.info? 46).map (·.size) = some Z.size) := lh (by rw [hZ]; kernel_rfl)
 have HZO : Hid (Z.all (·.oneCell') = true) := lh (by rw [hZ]; exact Av _ _ _ _ _)
 rw [← hZ]
 obtain ⟨w0, hw0⟩ := nXe (w.alloc (.cells Z 46))
 have hb0 : Below w.heap.size w w0 := by rw [hw0]; exact bAx
 have HX0 : Hid (w0.heap[w.heap.size]? = some (.cells Z 46 (0, 0))) := lh (by rw [hw0]; exact AL _ _)
 have lX0 := AJ HX0.out
 obtain ⟨HBL0, HW0⟩ := l2h hb0 hw0
 clear hw0 hb0 hZ
 obtain ⟨E0, hE0⟩ := nXe (hdA R x y Cg ⟨#[]⟩)
 have hE0n : E0.size = 36 := by rw [hE0]; exact C8 (by first | rfl | assumption)
 have HE0S : Hid ((Tryz.prog.info? 46).map (·.size) = some E0.size) := lh (by rw [hE0n, ← HZN.out]; exact HZS.out)
 have HE0Z : Hid (Z.size = E0.size) := lh (by rw [hE0n, HZN.out])
 have HE0N : Hid (36 = E0.size) := lh hE0n.symm
 have HE0O : Hid (E0.all (·.oneCell') = true) := lh (by rw [hE0]; exact Av _ _ _ _ _)
 have HE0 := lh hE0
 clear hE0n
 obtain ⟨E1, hE1⟩ := nXe (hdA R x y p ⟨#[]⟩)
 have hE1n : E1.size = 36 := by rw [hE1]; exact C8 (by first | rfl | assumption)
 have HE1S : Hid ((Tryz.prog.info? 46).map (·.size) = some E1.size) := lh (by rw [hE1n, ← HZN.out]; exact HZS.out)
 have HE1Z : Hid (Z.size = E1.size) := lh (by rw [hE1n, HZN.out])
 have HE1N : Hid (36 = E1.size) := lh hE1n.symm
 have HE1O : Hid (E1.all (·.oneCell') = true) := lh (by rw [hE1]; exact Av _ _ _ _ _)
 have HE1 := lh hE1
 clear hE1n
 have hcopy : (E0.toList.take 3 ++ byV ((bl P).take 32) ++ E0.toList.drop (3 + 32)).toArray = E1 := by
  rw [hE0, hE1, bP]
  exact hd_copy _ _ _ Dz h3 _
 have Hcopy := lh hcopy
 clear hcopy
 have hP32 : P.size = 32 := by omega
 clear ha hx hy hK hR hA hD hP  bK bR bA bD bP  zP2 h3 hE0 hE1 ho1 ho2
 go_enter func43, ntmps43
 go_wp2_with fail
 rw [HLIT.out, ← HW0.out]
 refine (HALL.out w0).mono ?_
 rintro e w1 ⟨v, rfl, hl, hb⟩
 obtain ⟨B, cap, rfl, hB, hc⟩ := Dc 5 hl rfl (by omega)
 clear hl
 have hc0_1 : w1.cell? ⟨B, 0, none⟩ = some (.string K) := by rw [HK.out]; exact hc 0 _ rfl
 have hc1_1 : w1.cell? ⟨B, 1, none⟩ = some (.string R) := by rw [HR.out]; exact hc 1 _ rfl
 have hc2_1 : w1.cell? ⟨B, 2, none⟩ = some (.string A) := by rw [HA.out]; exact hc 2 _ rfl
 have hc3_1 : w1.cell? ⟨B, 3, none⟩ = some (.string D) := by rw [HD.out]; exact hc 3 _ rfl
 have hc4_1 : w1.cell? ⟨B, 4, none⟩ = some (.string P) := by rw [HP.out]; exact hc 4 _ rfl
 have hBX : ¬ w.heap.size = B := by omega
 clear hc hB
 have HX1 := lh ((hb.block _ lX0).trans HX0.out)
 have lX1 := AJ HX1.out
 have HBL1 := tbB HBL0 hb
 clear hb 
 clear lX0
 have hc0x1 := hc0_1
 clear hc0_1
 have hc1x1 := hc1_1
 clear hc1_1
 have hc2x1 := hc2_1
 clear hc2_1
 have hc3x1 := hc3_1
 clear hc3_1
 have hc4x1 := hc4_1
 clear hc4_1
 go_wp2_with fail
 refine (HN1.out w1).mono ?_
 rintro e w2 ⟨rfl, hb⟩
 have HX2 := lh ((hb.block _ lX1).trans HX1.out)
 have lX2 := AJ HX2.out
 have HBL2 := tbB HBL1 hb
 have hc0x2 := AB hb hc0x1
 have hc1x2 := AB hb hc1x1
 have hc2x2 := AB hb hc2x1
 have hc3x2 := AB hb hc3x1
 have hc4x2 := AB hb hc4x1
 clear hb hc0x1 hc1x1 hc2x1 hc3x1 hc4x1
 clear lX1
 go_wp2_with fail
 refine (HN2.out w2).mono ?_
 rintro e w3 ⟨rfl, hb⟩
 have HX3 := lh ((hb.block _ lX2).trans HX2.out)
 have lX3 := AJ HX3.out
 have HBL3 := tbB HBL2 hb
 have hc0x3 := AB hb hc0x2
 have hc1x3 := AB hb hc1x2
 have hc2x3 := AB hb hc2x2
 have hc3x3 := AB hb hc3x2
 have hc4x3 := AB hb hc4x2
 clear hb hc0x2 hc1x2 hc2x2 hc3x2 hc4x2
 clear lX2
 go_wp2_with (first | (refine AC rfl _ _ _ rfl w3.heap.size E0 rfl (by rw [HE0.out]; first | rfl | kernel_rfl) _ _ (AL _ _) HE0S.out HE0N.out HE0O.out ?_) | fail)
 intro u2 hu2
 have hbu : Below w3.heap.size w3 u2 := by rw [hu2.out]; exact AQ bAx nR _
 have hyu : u2.heap[w3.heap.size]? = some (.cells E0 46 (0, 0)) := by rw [hu2.out]; exact AR (AL _ _)
 obtain ⟨HBU, HYU⟩ := l2h hbu hyu
 have lYU := AJ HYU.out
 clear hbu hyu hu2
 go_wp2_with fail
 refine wp_region_noPanic ?_
 refine Wr.BI (S := (fun W => W.cell? ⟨B, 4, none⟩ = some (.string P))) (K := []) (by kernel_rfl) ?_
 change Wr.Ar _ _ _ _ _ _ _ _ _ (World.drew u2)
 have hBL0 : Below w3.heap.size w3 (World.drew u2) := Bl.drew HBU.out
 have hS0 : (World.drew u2).cell? ⟨B, 4, none⟩ = some (.string P) := AB hBL0 hc4x3
 refine Wr.tkI 0 ?_ ?_ hS0 ?_
 rotate_left
 ·intro wq hSw
  have q0 := hSw
  go_simp
  rfl
 simp only [sq]
 refine Wr.tkI 1 ?_ ?_ hS0 ?_
 rotate_left
 ·intro wq hSw
  have q0 := hSw
  go_simp
  rfl
 simp only [sq]
 refine Wr.tkI 2 ?_ ?_ hS0 ?_
 rotate_left
 ·intro wq hSw
  have q0 := hSw
  go_simp
  rfl
 simp only [sq]
 refine Wr.tkI 3 ?_ ?_ hS0 ?_
 rotate_left
 ·intro wq hSw
  have q0 := hSw
  go_simp
  rfl
 simp only [sq]
 refine Wr.tkI 4 ?_ ?_ hS0 ?_
 rotate_left
 ·intro wq hSw
  have q0 := hSw
  go_simp
  rfl
 simp only [sq]
 refine Wr.Ab (i := 5) (by kernel_rfl) ?_
 refine WrC.Be rfl (by rfl) (.tmp 58) (.tmp 61) _ _ rfl _ underlying100 (by kernel_rfl) w3.heap.size 3 32 32 P rfl rfl _ _ HYU.out 32 (by rw [hP32]; rfl) (by rw [← HE0N.out]; omega) ?_
 intro w4 hw_w4
 have hBL1 : Below w3.heap.size w3 w4 := by rw [hw_w4.out]; exact AQ hBL0 nR _
 have hS1 : w4.cell? ⟨B, 4, none⟩ = some (.string P) := AB hBL1 hc4x3
 refine ⟨hS1, ?_⟩
 simp only [sq]
 have I7 : w4.heap[w3.heap.size]? = some (.cells E1 46 (0, 0)) := by rw [hw_w4.out, Hcopy.out]; exact AR HYU.out
 refine Wr.Ag (by kernel_rfl) (NoPanic.normal ?_) _
 have HY4 := lh I7
 have lY4 := AJ HY4.out
 have HX4 := lh ((hBL1.block _ lX3).trans HX3.out)
 have lX4 := AJ HX4.out
 have HBL4 := tbB HBL3 hBL1
 have JC := AB hBL1 hc0x3
 have JB := AB hBL1 hc1x3
 have JA := AB hBL1 hc2x3
 have I9 := AB hBL1 hc3x3
 have I8 := AB hBL1 hc4x3
 rcases hcase with rfl | ⟨rfl, rfl⟩
 all_goals
  go_wp2_with (first | (refine AC rfl _ _ _ rfl w.heap.size Z rfl (by rw [← HLIT.out]; rfl) _ _ HX4.out HZS.out rfl HZO.out ?_) | fail)
  intro wf hwf
  go_wp2
  refine bodyPost_ret (v := .tuple #[.agg Z, .int .i64 6]) (AU rfl _ _ w.heap.size 46 Z (0, 0) _ rfl (by rw [hwf.out]; exact AR HX4.out) underlying46 rfl HZS.out rfl) rfl ⟨rfl, by rw [hwf.out]; exact AQ HBL4.out nR _⟩
theorem JI (w : World) (s : ByteArray) (hs : s.size ≤ 140737488351232) {r a b p : List UInt8} (ha : all (bl s) = ([CL, r, a, b, p], 0)) (h3 : p.length = 32) (hy1 : (small 4096 a).isSome = true) (hy2 : (small 4096 b).isSome = true) :
 Calls Tryz.prog 43 #[.string s] w (RB (hdV (Cc (bl s))) w) := by
 have hA := fun w => Ref1A.Ca w s (by unfold maxLen; omega)
 unfold Bt at hA
 rw [ha] at hA
 have HALL := lh hA
 clear hA
 obtain ⟨K, hK⟩ := nXe (bsOf CL)
 have bK : bl K = CL := by rw [hK, AV]
 have zK : K.size ≤ 8192 := by rw [hK]; exact Aa ha _ (by simp)
 have HK := lh hK
 obtain ⟨R, hR⟩ := nXe (bsOf r)
 have bR : bl R = r := by rw [hR, AV]
 have zR : R.size ≤ 8192 := by rw [hR]; exact Aa ha _ (by simp)
 have HR := lh hR
 obtain ⟨A, hA⟩ := nXe (bsOf a)
 have bA : bl A = a := by rw [hA, AV]
 have zA : A.size ≤ 8192 := by rw [hA]; exact Aa ha _ (by simp)
 have HA := lh hA
 obtain ⟨D, hD⟩ := nXe (bsOf b)
 have bD : bl D = b := by rw [hD, AV]
 have zD : D.size ≤ 8192 := by rw [hD]; exact Aa ha _ (by simp)
 have HD := lh hD
 obtain ⟨P, hP⟩ := nXe (bsOf p)
 have bP : bl P = p := by rw [hP, AV]
 have zP : P.size ≤ 8192 := by rw [hP]; exact Aa ha _ (by simp)
 have HP := lh hP
 have hkk : (K.toList == [104, 101, 97, 100]) = true := by rw [hK, BV, AV]; rfl
 have zP2 : P.size = p.length := by rw [hP, AY]
 obtain ⟨o1, ho1⟩ := nXe ((small 4096 a).isSome)
 obtain ⟨o2, ho2⟩ := nXe ((small 4096 b).isSome)
 obtain ⟨x, hx⟩ := nXe (J4 a)
 obtain ⟨y, hy⟩ := nXe (J4 b)
 have HN1 : Hid (∀ w, Calls Tryz.prog 70 #[.string A] w (RB (.tuple #[.int .i64 x, .bool o1]) w)) := lh (by rw [hx, ho1, ← bA]; exact fun w => EO w A (by unfold maxLen; omega))
 have HN2 : Hid (∀ w, Calls Tryz.prog 70 #[.string D] w (RB (.tuple #[.int .i64 y, .bool o2]) w)) := lh (by rw [hy, ho2, ← bD]; exact fun w => EO w D (by unfold maxLen; omega))
 obtain ⟨xn, hxn⟩ := Option.isSome_iff_exists.1 hy1
 obtain ⟨yn, hyn⟩ := Option.isSome_iff_exists.1 hy2
 rw [E5 hxn] at hx
 rw [E5 hyn] at hy
 rw [hxn] at ho1
 rw [hyn] at ho2
 simp only [Option.isSome_some] at ho1 ho2
 subst ho1 ho2
 rw [KI ha hxn hyn h3]
 rw [← hx, ← hy]
 obtain ⟨F, cz, cf, hF⟩ : ∃ (F : Array Value) (cz cf : Int), (if CS ⟨r, x, y, p, []⟩ = true then cz = 0 ∧ cf = 0 ∧ F = hdA R x y p ⟨#[]⟩ else cz = 2 ∧ cf = 6 ∧ F = hdZ) := by
  split
  ·exact ⟨_, 0, 0, rfl, rfl, rfl⟩
  ·exact ⟨_, 2, 6, rfl, rfl, rfl⟩
 have hC0 : ∀ E1, E1 = hdA R x y p ⟨#[]⟩ → ∀ w, Calls Tryz.prog 71 #[.agg E1] w (RB (.int .i64 cz) w) := by
  intro E1 hE1 w
  have := Ku w E1 R x y p ⟨#[]⟩ ⟨hE1, h3⟩ (by omega) (Nat.zero_le _)
  rw [show hdOf R x y p ⟨#[]⟩ = ⟨r, x, y, p, []⟩ by simp [hdOf, bR]; rfl] at this
  by_cases hc : CS ⟨r, x, y, p, []⟩ = true
  ·rw [if_pos hc] at hF
   rw [hF.1]
   rw [hc] at this
   exact this
  ·rw [if_neg hc] at hF
   rw [hF.1]
   rw [Bool.not_eq_true] at hc
   rw [hc] at this
   exact this
 rw [show hdV (if CS ⟨r, x, y, p, []⟩ = true then some ⟨r, x, y, p, []⟩ else none) = .tuple #[.agg F, .int .i64 cf] from by
  split at hF
  ·rename_i hc
   rw [if_pos hc, hF.2.1, hF.2.2, hR]
   rfl
  ·rename_i hc
   rw [if_neg hc, hF.2.1, hF.2.2]
   rfl]
 have hW : (cz = 0 ∧ cf = 0 ∧ F = hdA R x y p ⟨#[]⟩) ∨ ((cz != 0) = true ∧ cf = 6 ∧ F = hdZ) := by
  split at hF
  ·exact .inl hF
  ·exact .inr ⟨by rw [hF.1]; rfl, hF.2⟩
 clear hF hxn hyn hy1 hy2
 obtain ⟨Z', hZ'⟩ : ∃ Z, Z = hdZ := ⟨_, rfl⟩
 rw [← hZ'] at hW
 obtain ⟨Z, hZ⟩ := nXe (hdZ)
 have HLIT : Hid (zq2 Z) := lh (by rw [hZ]; unfold zq2; kernel_rfl)
 have HZN : Hid (Z.size = 36) := lh (by rw [hZ]; kernel_rfl)
 have HZS : Hid ((Tryz.prog.info? 46).map (·.size) = some Z.size) := lh (by rw [hZ]; kernel_rfl)
 have HZO : Hid (Z.all (·.oneCell') = true) := lh (by rw [hZ]; exact Av _ _ _ _ _)
 try rw [← hZ]
 obtain ⟨w0, hw0⟩ := nXe (w.alloc (.cells Z 46))
 have hb0 : Below w.heap.size w w0 := by rw [hw0]; exact bAx
 have HX0 : Hid (w0.heap[w.heap.size]? = some (.cells Z 46 (0, 0))) := lh (by rw [hw0]; exact AL _ _)
 have lX0 := AJ HX0.out
 obtain ⟨HBL0, HW0⟩ := l2h hb0 hw0
 have hZZ : Z = Z' := by rw [hZ, hZ']
 subst hZZ
 clear hw0 hb0 hZ hZ'
 obtain ⟨E0, hE0⟩ := nXe (hdA R x y Cg ⟨#[]⟩)
 have hE0n : E0.size = 36 := by rw [hE0]; exact C8 (by first | rfl | assumption)
 have HE0S : Hid ((Tryz.prog.info? 46).map (·.size) = some E0.size) := lh (by rw [hE0n, ← HZN.out]; exact HZS.out)
 have HE0Z : Hid (Z.size = E0.size) := lh (by rw [hE0n, HZN.out])
 have HE0N : Hid (36 = E0.size) := lh hE0n.symm
 have HE0O : Hid (E0.all (·.oneCell') = true) := lh (by rw [hE0]; exact Av _ _ _ _ _)
 have HE0 := lh hE0
 clear hE0n
 obtain ⟨E1, hE1⟩ := nXe (hdA R x y p ⟨#[]⟩)
 have hE1n : E1.size = 36 := by rw [hE1]; exact C8 (by first | rfl | assumption)
 have HE1S : Hid ((Tryz.prog.info? 46).map (·.size) = some E1.size) := lh (by rw [hE1n, ← HZN.out]; exact HZS.out)
 have HE1Z : Hid (Z.size = E1.size) := lh (by rw [hE1n, HZN.out])
 have HE1N : Hid (36 = E1.size) := lh hE1n.symm
 have HE1O : Hid (E1.all (·.oneCell') = true) := lh (by rw [hE1]; exact Av _ _ _ _ _)
 have HE1 := lh hE1
 clear hE1n
 have HC := lh (hC0 E1 hE1)
 rw [← hE1] at hW
 have HW' := lh hW
 clear hC0 hW
 have hcopy : (E0.toList.take 3 ++ byV ((bl P).take 32) ++ E0.toList.drop (3 + 32)).toArray = E1 := by
  rw [hE0, hE1, bP]
  exact hd_copy _ _ _ Dz h3 _
 have Hcopy := lh hcopy
 clear hcopy
 have hP32 : P.size = 32 := by omega
 clear ha hx hy hK hR hA hD hP  bK bR bA bD bP  zP2 h3 hE0 hE1 
 go_enter func43, ntmps43
 go_wp2_with fail
 rw [HLIT.out, ← HW0.out]
 refine (HALL.out w0).mono ?_
 rintro e w1 ⟨v, rfl, hl, hb⟩
 obtain ⟨B, cap, rfl, hB, hc⟩ := Dc 5 hl rfl (by omega)
 clear hl
 have hc0_1 : w1.cell? ⟨B, 0, none⟩ = some (.string K) := by rw [HK.out]; exact hc 0 _ rfl
 have hc1_1 : w1.cell? ⟨B, 1, none⟩ = some (.string R) := by rw [HR.out]; exact hc 1 _ rfl
 have hc2_1 : w1.cell? ⟨B, 2, none⟩ = some (.string A) := by rw [HA.out]; exact hc 2 _ rfl
 have hc3_1 : w1.cell? ⟨B, 3, none⟩ = some (.string D) := by rw [HD.out]; exact hc 3 _ rfl
 have hc4_1 : w1.cell? ⟨B, 4, none⟩ = some (.string P) := by rw [HP.out]; exact hc 4 _ rfl
 have hBX : ¬ w.heap.size = B := by omega
 clear hc hB
 have HX1 := lh ((hb.block _ lX0).trans HX0.out)
 have lX1 := AJ HX1.out
 have HBL1 := tbB HBL0 hb
 clear hb 
 clear lX0
 have hc0x1 := hc0_1
 clear hc0_1
 have hc1x1 := hc1_1
 clear hc1_1
 have hc2x1 := hc2_1
 clear hc2_1
 have hc3x1 := hc3_1
 clear hc3_1
 have hc4x1 := hc4_1
 clear hc4_1
 go_wp2_with fail
 refine (HN1.out w1).mono ?_
 rintro e w2 ⟨rfl, hb⟩
 have HX2 := lh ((hb.block _ lX1).trans HX1.out)
 have lX2 := AJ HX2.out
 have HBL2 := tbB HBL1 hb
 have hc0x2 := AB hb hc0x1
 have hc1x2 := AB hb hc1x1
 have hc2x2 := AB hb hc2x1
 have hc3x2 := AB hb hc3x1
 have hc4x2 := AB hb hc4x1
 clear hb hc0x1 hc1x1 hc2x1 hc3x1 hc4x1
 clear lX1
 go_wp2_with fail
 refine (HN2.out w2).mono ?_
 rintro e w3 ⟨rfl, hb⟩
 have HX3 := lh ((hb.block _ lX2).trans HX2.out)
 have lX3 := AJ HX3.out
 have HBL3 := tbB HBL2 hb
 have hc0x3 := AB hb hc0x2
 have hc1x3 := AB hb hc1x2
 have hc2x3 := AB hb hc2x2
 have hc3x3 := AB hb hc3x2
 have hc4x3 := AB hb hc4x2
 clear hb hc0x2 hc1x2 hc2x2 hc3x2 hc4x2
 clear lX2
 go_wp2_with (first | (refine AC rfl _ _ _ rfl w3.heap.size E0 rfl (by rw [HE0.out]; first | rfl | kernel_rfl) _ _ (AL _ _) HE0S.out HE0N.out HE0O.out ?_) | fail)
 intro u2 hu2
 have hbu : Below w3.heap.size w3 u2 := by rw [hu2.out]; exact AQ bAx nR _
 have hyu : u2.heap[w3.heap.size]? = some (.cells E0 46 (0, 0)) := by rw [hu2.out]; exact AR (AL _ _)
 obtain ⟨HBU, HYU⟩ := l2h hbu hyu
 have lYU := AJ HYU.out
 clear hbu hyu hu2
 go_wp2_with fail
 refine wp_region_noPanic ?_
 refine Wr.BI (S := (fun W => W.cell? ⟨B, 4, none⟩ = some (.string P))) (K := []) (by kernel_rfl) ?_
 change Wr.Ar _ _ _ _ _ _ _ _ _ (World.drew u2)
 have hBL0 : Below w3.heap.size w3 (World.drew u2) := Bl.drew HBU.out
 have hS0 : (World.drew u2).cell? ⟨B, 4, none⟩ = some (.string P) := AB hBL0 hc4x3
 refine Wr.tkI 0 ?_ ?_ hS0 ?_
 rotate_left
 ·intro wq hSw
  have q0 := hSw
  go_simp
  rfl
 simp only [sq]
 refine Wr.tkI 1 ?_ ?_ hS0 ?_
 rotate_left
 ·intro wq hSw
  have q0 := hSw
  go_simp
  rfl
 simp only [sq]
 refine Wr.tkI 2 ?_ ?_ hS0 ?_
 rotate_left
 ·intro wq hSw
  have q0 := hSw
  go_simp
  rfl
 simp only [sq]
 refine Wr.tkI 3 ?_ ?_ hS0 ?_
 rotate_left
 ·intro wq hSw
  have q0 := hSw
  go_simp
  rfl
 simp only [sq]
 refine Wr.tkI 4 ?_ ?_ hS0 ?_
 rotate_left
 ·intro wq hSw
  have q0 := hSw
  go_simp
  rfl
 simp only [sq]
 refine Wr.Ab (i := 5) (by kernel_rfl) ?_
 refine WrC.Be rfl (by rfl) (.tmp 58) (.tmp 61) _ _ rfl _ underlying100 (by kernel_rfl) w3.heap.size 3 32 32 P rfl rfl _ _ HYU.out 32 (by rw [hP32]; rfl) (by rw [← HE0N.out]; omega) ?_
 intro w4 hw_w4
 have hBL1 : Below w3.heap.size w3 w4 := by rw [hw_w4.out]; exact AQ hBL0 nR _
 have hS1 : w4.cell? ⟨B, 4, none⟩ = some (.string P) := AB hBL1 hc4x3
 refine ⟨hS1, ?_⟩
 simp only [sq]
 have I7 : w4.heap[w3.heap.size]? = some (.cells E1 46 (0, 0)) := by rw [hw_w4.out, Hcopy.out]; exact AR HYU.out
 refine Wr.Ag (by kernel_rfl) (NoPanic.normal ?_) _
 have HY4 := lh I7
 have lY4 := AJ HY4.out
 have HX4 := lh ((hBL1.block _ lX3).trans HX3.out)
 have lX4 := AJ HX4.out
 have HBL4 := tbB HBL3 hBL1
 have JC := AB hBL1 hc0x3
 have JB := AB hBL1 hc1x3
 have JA := AB hBL1 hc2x3
 have I9 := AB hBL1 hc3x3
 have I8 := AB hBL1 hc4x3
 go_wp2_with (first | (refine BQ (by rfl) _ _ rfl w3.heap.size rfl _ E1 (0, 0) _ HY4.out underlying46 rfl HE1S.out ?_) | fail)
 refine (HC.out w4).mono ?_
 rintro e w5 ⟨rfl, hb⟩
 have HX5 := lh ((hb.block _ lX4).trans HX4.out)
 have lX5 := AJ HX5.out
 have HY5 := lh ((hb.block _ lY4).trans HY4.out)
 have lY5 := AJ HY5.out
 have HBL5 := tbB HBL4 hb
 have L8 := AB hb JC
 have Lx := AB hb JB
 have Lv := AB hb JA
 have Lu := AB hb I9
 have Lt := AB hb I8
 clear hb JC JB JA I9 I8
 clear lX4 lY4
 rcases HW'.out with ⟨hz, rfl, rfl⟩ | ⟨hz, rfl, hFZ⟩
 ·skip
  go_wp2_with (first | (refine wpList_load_row rfl _ _ rfl w3.heap.size rfl _ F (0, 0) _ HY5.out underlying46 rfl HE1S.out ?_) | (refine AC rfl _ _ _ rfl w.heap.size F rfl rfl _ _ HX5.out HE1S.out HE1Z.out HE1O.out ?_) | fail)
  intro wf hwf
  go_wp2
  refine bodyPost_ret (v := .tuple #[.agg F, .int .i64 0]) (AU rfl _ _ w.heap.size 46 F (0, 0) _ rfl (by rw [hwf.out]; exact AR HX5.out) underlying46 rfl HE1S.out rfl) rfl ⟨rfl, by rw [hwf.out]; exact AQ HBL5.out nR _⟩
 ·skip
  obtain rfl : Z = F := hFZ.symm
  go_wp2_with (first | (refine AC rfl _ _ _ rfl w.heap.size Z rfl (by rw [← HLIT.out]; rfl) _ _ HX5.out HZS.out rfl HZO.out ?_) | fail)
  intro wf hwf
  go_wp2
  refine bodyPost_ret (v := .tuple #[.agg Z, .int .i64 6]) (AU rfl _ _ w.heap.size 46 Z (0, 0) _ rfl (by rw [hwf.out]; exact AR HX5.out) underlying46 rfl HZS.out rfl) rfl ⟨rfl, by rw [hwf.out]; exact AQ HBL5.out nR _⟩
theorem EQ (w : World) (s : ByteArray) (hs : s.size ≤ 140737488351232) :
 Calls Tryz.prog 43 #[.string s] w (RB (hdV (Cc (bl s))) w) := by
 obtain ⟨l, y, ha⟩ : ∃ l y, all (bl s) = (l, y) := ⟨_, _, rfl⟩
 by_cases h0 : y = 0
 ·subst h0
  by_cases h6 : l.length = 5
  ·match l, h6, ha with
   | [k, r, a, b, p], _, ha =>
     by_cases hk : k = CL
     ·subst hk
      by_cases h3 : p.length = 32
      ·cases h1 : (small 4096 a).isSome with
       | false => exact Ie w s hs ha h3 (by rw [h1]; rfl)
       | true =>
         cases h2 : (small 4096 b).isSome with
         | false => exact Ie w s hs ha h3 (by rw [h1, h2]; rfl)
         | true => exact JI w s hs ha h3 h1 h2
      ·exact JJ w s hs ha h3
     ·exact EB w s hs ha hk
  ·exact DY w s hs ha (.inr ⟨rfl, h6⟩)
 ·exact DY w s hs ha (.inl h0)
end WireF
namespace BkR
open Go Go.RowKit Go.Shelf Steps RowsX Lift KeyA TreeA BookA BookB
theorem JQ (sv fr to hi : Int) : (sv < 0 ∧ Ck sv fr to hi = false)
 ∨ (0 ≤ sv ∧ 63 < sv ∧ Ck sv fr to hi = false)
 ∨ (0 ≤ sv ∧ sv ≤ 63 ∧ fr < 0 ∧ Ck sv fr to hi = false)
 ∨ (0 ≤ sv ∧ sv ≤ 63 ∧ 0 ≤ fr ∧ to < fr ∧ Ck sv fr to hi = false)
 ∨ (0 ≤ sv ∧ sv ≤ 63 ∧ 0 ≤ fr ∧ fr ≤ to ∧ 1099511627776 < to ∧ Ck sv fr to hi = false)
 ∨ (0 ≤ sv ∧ sv ≤ 63 ∧ 0 ≤ fr ∧ fr ≤ to ∧ to ≤ 1099511627776 ∧ hi < 0 ∧ Ck sv fr to hi = false)
 ∨ (0 ≤ sv ∧ sv ≤ 63 ∧ 0 ≤ fr ∧ fr ≤ to ∧ to ≤ 1099511627776 ∧ 0 ≤ hi ∧ 7 < hi ∧ Ck sv fr to hi = false)
 ∨ (0 ≤ sv ∧ sv ≤ 63 ∧ 0 ≤ fr ∧ fr ≤ to ∧ to ≤ 1099511627776 ∧ 0 ≤ hi ∧ hi ≤ 7 ∧ Ck sv fr to hi = true) := by
 unfold Ck
 by_cases h0 : 0 ≤ sv
 ·skip
  by_cases h1 : sv ≤ 63
  ·skip
   by_cases h2 : 0 ≤ fr
   ·skip
    by_cases h3 : fr ≤ to
    ·skip
     by_cases h4 : to ≤ 1099511627776
     ·skip
      by_cases h5 : 0 ≤ hi
      ·skip
       by_cases h6 : hi ≤ 7
       ·skip
        exact .inr (.inr (.inr (.inr (.inr (.inr (.inr (⟨h0, h1, h2, h3, h4, h5, h6, by simp [h0, h1, h2, h3, h4, h5, h6]⟩)))))))
       ·exact .inr (.inr (.inr (.inr (.inr (.inr (.inl ⟨h0, h1, h2, h3, h4, h5, by omega, by simp [h6]⟩))))))
      ·exact .inr (.inr (.inr (.inr (.inr (.inl ⟨h0, h1, h2, h3, h4, by omega, by simp [h5]⟩)))))
     ·exact .inr (.inr (.inr (.inr (.inl ⟨h0, h1, h2, h3, by omega, by simp [h4]⟩))))
    ·exact .inr (.inr (.inr (.inl ⟨h0, h1, h2, by omega, by simp [h3]⟩)))
   ·exact .inr (.inr (.inl ⟨h0, h1, by omega, by simp [h2]⟩))
  ·exact .inr (.inl ⟨h0, by omega, by simp [h1]⟩)
 ·exact .inl ⟨by omega, by simp [h0]⟩
theorem KH (w : World) (g : Gr') : Calls Tryz.prog 40 #[.agg g.A] w (RB (.bool (EL g)) w) := by
 unfold EL
 obtain ⟨p, hp⟩ := nXe (g.A)
 have p0 := g.c0
 have p1 := g.c1
 have p2 := g.c2
 have p3 := g.c3
 rw [← hp] at p0 p1 p2 p3 ⊢
 obtain ⟨sv, hsv⟩ := nXe (g.sv)
 obtain ⟨fr, hfr⟩ := nXe (g.fr)
 obtain ⟨to, hto⟩ := nXe (g.to)
 obtain ⟨hi, hhi⟩ := nXe (g.hi)
 rw [← hsv, ← hfr, ← hto, ← hhi]
 rw [← hsv] at p0
 rw [← hfr] at p1
 rw [← hto] at p2
 rw [← hhi] at p3
 clear hsv hfr hto hhi hp
 rcases JQ sv fr to hi with ⟨h0, hv⟩ | ⟨h0, h1, hv⟩ | ⟨h0, h1, h2, hv⟩ | ⟨h0, h1, h2, h3, hv⟩ | ⟨h0, h1, h2, h3, h4, hv⟩ | ⟨h0, h1, h2, h3, h4, h5, hv⟩ | ⟨h0, h1, h2, h3, h4, h5, h6, hv⟩ | ⟨h0, h1, h2, h3, h4, h5, h6, hv⟩
 ·rw [hv]
  clear hv
  have d0 : decide (0 ≤ sv) = false := dF (by omega)
  go_enter func40, ntmps40
  go_wp2
  go_ret
  exact ⟨by first | rfl | simp_all, bAx⟩
 ·rw [hv]
  clear hv
  have d0 : decide (0 ≤ sv) = true := dT (by omega)
  have d1 : decide (sv ≤ 63) = false := dF (by omega)
  go_enter func40, ntmps40
  go_wp2
  go_ret
  exact ⟨by first | rfl | simp_all, bAx⟩
 ·rw [hv]
  clear hv
  have d0 : decide (0 ≤ sv) = true := dT (by omega)
  have d1 : decide (sv ≤ 63) = true := dT (by omega)
  have d2 : decide (0 ≤ fr) = false := dF (by omega)
  go_enter func40, ntmps40
  go_wp2
  go_ret
  exact ⟨by first | rfl | simp_all, bAx⟩
 ·rw [hv]
  clear hv
  have d0 : decide (0 ≤ sv) = true := dT (by omega)
  have d1 : decide (sv ≤ 63) = true := dT (by omega)
  have d2 : decide (0 ≤ fr) = true := dT (by omega)
  have d3 : decide (fr ≤ to) = false := dF (by omega)
  go_enter func40, ntmps40
  go_wp2
  go_ret
  exact ⟨by first | rfl | simp_all, bAx⟩
 ·rw [hv]
  clear hv
  have d0 : decide (0 ≤ sv) = true := dT (by omega)
  have d1 : decide (sv ≤ 63) = true := dT (by omega)
  have d2 : decide (0 ≤ fr) = true := dT (by omega)
  have d3 : decide (fr ≤ to) = true := dT (by omega)
  have d4 : decide (to ≤ 1099511627776) = false := dF (by omega)
  go_enter func40, ntmps40
  go_wp2
  go_ret
  exact ⟨by first | rfl | simp_all, bAx⟩
 ·rw [hv]
  clear hv
  have d0 : decide (0 ≤ sv) = true := dT (by omega)
  have d1 : decide (sv ≤ 63) = true := dT (by omega)
  have d2 : decide (0 ≤ fr) = true := dT (by omega)
  have d3 : decide (fr ≤ to) = true := dT (by omega)
  have d4 : decide (to ≤ 1099511627776) = true := dT (by omega)
  have d5 : decide (0 ≤ hi) = false := dF (by omega)
  go_enter func40, ntmps40
  go_wp2
  go_ret
  exact ⟨by first | rfl | simp_all, bAx⟩
 ·rw [hv]
  clear hv
  have d0 : decide (0 ≤ sv) = true := dT (by omega)
  have d1 : decide (sv ≤ 63) = true := dT (by omega)
  have d2 : decide (0 ≤ fr) = true := dT (by omega)
  have d3 : decide (fr ≤ to) = true := dT (by omega)
  have d4 : decide (to ≤ 1099511627776) = true := dT (by omega)
  have d5 : decide (0 ≤ hi) = true := dT (by omega)
  have d6 : decide (hi ≤ 7) = false := dF (by omega)
  go_enter func40, ntmps40
  go_wp2
  go_ret
  exact ⟨by first | rfl | simp_all, bAx⟩
 ·rw [hv]
  clear hv
  have d0 : decide (0 ≤ sv) = true := dT (by omega)
  have d1 : decide (sv ≤ 63) = true := dT (by omega)
  have d2 : decide (0 ≤ fr) = true := dT (by omega)
  have d3 : decide (fr ≤ to) = true := dT (by omega)
  have d4 : decide (to ≤ 1099511627776) = true := dT (by omega)
  have d5 : decide (0 ≤ hi) = true := dT (by omega)
  have d6 : decide (hi ≤ 7) = true := dT (by omega)
  go_enter func40, ntmps40
  go_wp2
  go_ret
  exact ⟨by first | rfl | simp_all, bAx⟩
end BkR
end Go.Proofs.YtceiajepcokacaaGreatDoor
