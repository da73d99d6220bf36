/-
  WHAT IS PROVED: contracts. Condition: as named.
-/
import Derived.Test.YtadofbbpfgmclaaGreatDoorS0
import Derived.Test.YtadofbbpfgmclaaGreatDoorZTBH19
import Derived.Test.YtadofbbpfgmclaaGreatDoorZT35
import Derived.Test.YtadofbbpfgmclaaGreatDoorZT38
set_option linter.unusedVariables false
set_option linter.unusedSimpArgs false
set_option maxRecDepth 100000
set_option maxHeartbeats 4000000
namespace Go.Proofs.YtadofbbpfgmclaaGreatDoor
open Go.Proofs.Tryz
namespace PfD
open Go Go.RowKit Go.Shelf OctetS IdentS EntS OctP OctQ OctG IdentP EntP EventC ShaA Steps KeyA TreeA WireS WireT BookA BkF Lift PfS PfA PfB PfC
attribute [-go_sem] run_equalIn_agg
theorem K4 (w : World) (p : Array Value) (n : Int) (a x b y : ByteArray) (hp : p = pfA n a x b y) (ha : a.size ≤ 140737488351232) (hx : x.size ≤ maxLen) (hb' : b.size ≤ maxLen) (hy : y.size ≤ maxLen) (v : Value) (L : List Gr') (hL : Sl w v 36 L.length (L.flatMap Gr'.cs)) (hv : Ag w) (hk : Al w) :
 Calls Tryz.prog 14 #[v, .agg p] w (RB (.int .i64 (Bg L (pfOf n a x b y))) w) := by
 have hR := fun w => J6 w p n a x b y hp ha hx hb' hy
 have p0 : p[0]? = some (.int .i64 n) := by rw [hp]; rfl
 have p1 : p[1]? = some (.string a) := by rw [hp]; rfl
 have p2 : p[2]? = some (.string x) := by rw [hp]; rfl
 have p3 : p[3]? = some (.string b) := by rw [hp]; rfl
 have p4 : p[4]? = some (.string y) := by rw [hp]; rfl
 have NR := lh (show (Tryz.prog.info? 24).map (·.size) = some p.size by rw [hp]; kernel_rfl)
 obtain ⟨w0, hw0⟩ := nXe (w.alloc (.cells p 24))
 have hb0 : Below w.heap.size w w0 := by rw [hw0]; exact bAx
 have hx0 : w0.heap[w.heap.size]? = some (.cells p 24 (0, 0)) := by rw [hw0]; exact AL _ _
 obtain ⟨HX0, Mm, HW0⟩ := l3h hx0 hb0 hw0
 unfold maxLen at hx hb' hy
 cases hc : Ct (pfOf n a x b y)
 ·rw [hc] at hR
  unfold Bg
  rw [hc, if_neg (by simp)]
  have HR := lh hR
  clear hR hc hp hb0 hw0
  go_enter func14, ntmps14
  go_wp2_with (first | (rw [← HW0.out]; refine wpList_load_row rfl _ _ rfl w.heap.size rfl _ p (0, 0) _ HX0.out underlying24 rfl NR.out ?_) | fail)
  refine (HR.out w0).mono ?_
  rintro e' w1 ⟨rfl, hb⟩
  have Mo := tbB Mm hb
  clear hb
  go_wp2
  go_ret
  exact ⟨rfl, Mo.out⟩
 ·rw [hc] at hR
  obtain ⟨_, _, ha2, hx2, hb2, hy2⟩ := CX.1 hc
  have NW : Bg L (pfOf n a x b y) = (match says (bl a), says (bl b) with | some h1, some h2 => twoW L (pfOf n a x b y) h1 h2 | _, _ => 6) := by
   unfold Bg
   rw [hc, if_pos rfl]
   rfl
  simp only [pfOf, AP] at ha2 hx2 hb2 hy2
  obtain ⟨F1, y1, hF1, NQ, Ng, hc1⟩ := IE (bl a)
  obtain ⟨F2, y2, hF2, NP, Nf, hc2⟩ := IE (bl b)
  have hA := fun w hv hk => Jt w a (by omega) hv hk
  have hB := fun w hv hk => Jt w b (by omega) hv hk
  rw [hF1] at hA
  rw [hF2] at hB
  have hV1 := fun w (at' : Int) (hL : Sl w v 36 L.length (L.flatMap Gr'.cs)) (hk : Al w) => RkJ.Fa w v L n at' a x hL (by omega) (by unfold maxLen; omega)
  have hV2 := fun w (at' : Int) (hL : Sl w v 36 L.length (L.flatMap Gr'.cs)) (hk : Al w) => RkJ.Fa w v L n at' b y hL (by omega) (by unfold maxLen; omega)
  obtain ⟨RES, NN⟩ := nXe (Bg L (pfOf n a x b y))
  rw [← NN]
  have NA := lh NN
  clear NN
  obtain ⟨HR, HA, HB⟩ := l3h hR hA hB
  have OQ := lh (show (Tryz.prog.info? 29).map (·.size) = some F1.size by rw [NQ]; kernel_rfl)
  have OM := lh (show (Tryz.prog.info? 29).map (·.size) = some F2.size by rw [NP]; kernel_rfl)
  have OU := lh (show 36 = F1.size from NQ.symm)
  have OP := lh (show 36 = F2.size from NP.symm)
  obtain ⟨OT, OO, HV, HK, OC, Pi, Pg, OD, P6⟩ := l9h Ng Nf hv hk hL hV1 hV2 NW hc1
  have P5 := lh hc2
  clear hR hA hB hF1 hF2 NQ NP Ng Nf hc hp hb0 hw0 hv hk hL hV1 hV2 NW hc1 hc2 ha hx hb' hy ha2 hx2 hb2 hy2
  go_enter func14, ntmps14
  go_wp2_with (first | (rw [← HW0.out]; refine wpList_load_row rfl _ _ rfl w.heap.size rfl _ p (0, 0) _ HX0.out underlying24 rfl NR.out ?_) | fail)
  refine (HR.out w0).mono ?_
  rintro e' w1 ⟨rfl, hb⟩
  have M4 := kpB hb HX0
  have Mo := tbB Mm hb
  clear hb
  have c1 : w1.cell? ⟨w.heap.size, 1, none⟩ = some (.string a) := (AO M4.out).trans p1
  go_wp2_with fail
  refine (HA.out w1 (HV.out.below Mo.out) (HK.out.below Mo.out)).mono ?_
  rintro e' w2 ⟨rfl, hb⟩
  have M3 := kpB hb M4
  have Mq := tbB Mo hb
  clear hb c1
  go_wp2_with (first | (refine AC rfl _ _ _ rfl w2.heap.size F1 rfl rfl _ _ (AL _ _) OQ.out (by rw [← OU.out]; rfl) OT.out ?_) | fail)
  intro u hu
  obtain ⟨w3, hw3⟩ := nXe (u)
  rw [← hw3] at hu ⊢
  clear hw3
  have hb : Below w2.heap.size w2 w3 := by rw [hu.out]; exact AQ bAx nR _
  have PQ := lh (show w3.heap[w2.heap.size]? = some (.cells F1 29 (0, 0)) by rw [hu.out]; exact AR (AL _ _))
  obtain ⟨B1, hB1⟩ := nXe (w2.heap.size)
  rw [← hB1] at PQ ⊢
  have Nj := kpB hb M3
  have M0 := tbB Mq hb
  clear hb hu hB1
  have c3 : w3.cell? ⟨w.heap.size, 3, none⟩ = some (.string b) := (AO Nj.out).trans p3
  go_wp2_with fail
  refine (HB.out w3 (HV.out.below M0.out) (HK.out.below M0.out)).mono ?_
  rintro e' w4 ⟨rfl, hb⟩
  have OB := kpB hb Nj
  have PP := kpB hb PQ
  have Mx := tbB M0 hb
  clear hb c3
  go_wp2_with (first | (refine AC rfl _ _ _ rfl w4.heap.size F2 rfl rfl _ _ (AL _ _) OM.out (by rw [← OP.out]; rfl) OO.out ?_) | fail)
  intro u hu
  obtain ⟨w5, O8⟩ := nXe (u)
  rw [← O8] at hu ⊢
  clear O8
  have hb : Below w4.heap.size w4 w5 := by rw [hu.out]; exact AQ bAx nR _
  have Nh := lh (show w5.heap[w4.heap.size]? = some (.cells F2 29 (0, 0)) by rw [hu.out]; exact AR (AL _ _))
  obtain ⟨B2, hB2⟩ := nXe (w4.heap.size)
  have QF : B1 < B2 := by rw [hB2]; exact AB PP.out
  have QE : w.heap.size ≤ B2 := by rw [hB2]; exact Mx.out.size
  rw [← hB2] at Nh ⊢
  have NT := kpB hb OB
  have Ni := kpB hb PP
  have Ld := tbB Mx hb
  clear hb hu hB2
  rcases P6.out with ⟨rfl, hs1⟩ | ⟨rfl, h1, hs1, hF1, hl1, hg1⟩
  ·obtain rfl : RES = 6 := by rw [NA.out, OD.out, hs1]
   go_wp2
   go_ret
   exact ⟨rfl, Ld.out⟩
  rcases P5.out with ⟨rfl, hs2⟩ | ⟨rfl, h2, hs2, hF2, hl2, hg2⟩
  ·obtain rfl : RES = 6 := by rw [NA.out, OD.out, hs1, hs2]
   go_wp2
   go_ret
   exact ⟨rfl, Ld.out⟩
  have hres : RES = (if h1.room = h2.room ∧ h1.ep = h2.ep ∧ h1.ix = h2.ix then (if h1.sum = h2.sum then 4 else if BF L n h1.ix (bl a) (bl x) = 0 then BF L n h1.ix (bl b) (bl y) else BF L n h1.ix (bl a) (bl x)) else 13) := by
   rw [NA.out, OD.out, hs1, hs2]
   rfl
  obtain ⟨r1, hr1⟩ := nXe (h1.room)
  obtain ⟨e1, he1⟩ := nXe (h1.ep)
  obtain ⟨i1, hi1⟩ := nXe (h1.ix)
  obtain ⟨s1, NM⟩ : ∃ r, r = h1.sum := ⟨_, rfl⟩
  obtain ⟨r2, hr2⟩ := nXe (h2.room)
  obtain ⟨e2, he2⟩ := nXe (h2.ep)
  obtain ⟨i2, hi2⟩ := nXe (h2.ix)
  obtain ⟨s2, NL⟩ : ∃ r, r = h2.sum := ⟨_, rfl⟩
  rw [← hr1, ← he1, ← hi1, ← NM] at hF1 hres
  rw [← hr2, ← he2, ← hi2, ← NL] at hF2 hres
  rw [← NM] at hl1
  rw [← NL] at hl2
  clear hr1 he1 hi1 NM hr2 he2 hi2 NL hs1 hs2 hg1 hg2
  have hP1 : HdP F1 (bsOf r1) e1 i1 s1 ⟨#[]⟩ := ⟨hF1, hl1⟩
  have hP2 : HdP F2 (bsOf r2) e2 i2 s2 ⟨#[]⟩ := ⟨hF2, hl2⟩
  have Pe := lh (fun w hL hk => Pi.out w i1 hL hk)
  have Pd := lh (fun w hL hk => Pg.out w i1 hL hk)
  generalize BF L n i1 (bl a) (bl x) = V1 at Pe hres
  generalize BF L n i1 (bl b) (bl y) = V2 at Pd hres
  have Nk := lh hres
  clear hres NA Pi Pg HA HB HR P6 P5 OD
  have Oa : F1[0]? = some (.string (bsOf r1)) := hP1.c0
  have P8 : F1[1]? = some (.int .i64 e1) := hP1.c1
  have OZ : F1[2]? = some (.int .i64 i1) := hP1.c2
  have OY : F2[0]? = some (.string (bsOf r2)) := hP2.c0
  have P7 : F2[1]? = some (.int .i64 e2) := hP2.c1
  have q22 : F2[2]? = some (.int .i64 i2) := hP2.c2
  obtain ⟨C1, Ny⟩ : ∃ C : Array Value, C = (byV s1).toArray := ⟨_, rfl⟩
  obtain ⟨C2, hC2⟩ : ∃ C : Array Value, C = (byV s2).toArray := ⟨_, rfl⟩
  have Nq := lh (show (Tryz.prog.info? 27).map (·.size) = some C1.size by rw [show C1.size = 32 by rw [Ny]; simp [Ae, hl1]]; kernel_rfl)
  have Np := lh (show (Tryz.prog.info? 27).map (·.size) = some C2.size by rw [show C2.size = 32 by rw [hC2]; simp [Ae, hl2]]; kernel_rfl)
  have MC := lh (show ∀ (j : Nat) (u : Value), C1.toList[j]? = some u → w5.cell? ⟨B1, 3 + j, none⟩ = some u from fun j u hu => by
   rw [Ny] at hu
   rw [AO Ni.out]
   exact hP1.cp j u hu)
  have MB := lh (show ∀ (j : Nat) (u : Value), C2.toList[j]? = some u → w5.cell? ⟨B2, 3 + j, none⟩ = some u from fun j u hu => by
   rw [hC2] at hu
   rw [AO Nh.out]
   exact hP2.cp j u hu)
  have O9 : ∀ w, (Op.equalIn 10000 27 (.agg C1) (.agg C2)).run Tryz.prog w = .ok (decide (s1 = s2)) w := fun w => by
   rw [Ny, hC2, EqEnt.pB_of hl1, EqEnt.pB_of hl2, EqHash.eqHash]
   congr 1
   rw [Bool.eq_iff_iff, EqHash.hEq_iff hl1 hl2]
   simp
  have QW := EqHash.guardHash
  have hrm := room_eq r1 r2
  obtain ⟨R1, PG⟩ := nXe (bsOf r1)
  obtain ⟨R2, hR2⟩ := nXe (bsOf r2)
  rw [← PG] at Oa hrm
  rw [← hR2] at OY hrm
  clear Ny hC2 hF1 hF2 hl1 hl2 hP1 hP2 PG hR2
  have k10 : w5.cell? ⟨B1, 0, none⟩ = some (.string R1) := (AO Ni.out).trans Oa
  have k11 : w5.cell? ⟨B1, 1, none⟩ = some (.int .i64 e1) := (AO Ni.out).trans P8
  have k12 : w5.cell? ⟨B1, 2, none⟩ = some (.int .i64 i1) := (AO Ni.out).trans OZ
  have k20 : w5.cell? ⟨B2, 0, none⟩ = some (.string R2) := (AO Nh.out).trans OY
  have k21 : w5.cell? ⟨B2, 1, none⟩ = some (.int .i64 e2) := (AO Nh.out).trans P7
  have k22 : w5.cell? ⟨B2, 2, none⟩ = some (.int .i64 i2) := (AO Nh.out).trans q22
  have hres := Nk.out
  clear Nk
  by_cases h1 : r1 = r2
  rotate_left
  ·rw [if_neg (fun h => h1 h.1)] at hres
   subst hres
   rw [dF h1] at hrm
   go_wp2
   go_ret
   exact ⟨rfl, Ld.out⟩
  rw [dT h1] at hrm
  by_cases h2 : e1 = e2
  rotate_left
  ·rw [if_neg (fun h => h2 h.2.1)] at hres
   subst hres
   have t1 : (e1 != e2) = true := by simpa using h2
   have t2 : (e1 == e2) = false := by simpa using h2
   go_wp2
   go_ret
   exact ⟨rfl, Ld.out⟩
  by_cases h3 : i1 = i2
  rotate_left
  ·rw [if_neg (fun h => h3 h.2.2)] at hres
   subst hres
   have t1 : (i1 != i2) = true := by simpa using h3
   have t2 : (i1 == i2) = false := by simpa using h3
   subst h2
   go_wp2
   go_ret
   exact ⟨rfl, Ld.out⟩
  rw [if_pos ⟨h1, h2, h3⟩] at hres
  subst h2
  subst h3
  clear h1
  by_cases hss : s1 = s2
  ·rw [if_pos hss] at hres
   subst hres
   rw [dT hss] at O9
   clear hss
   go_wp2_with (first | (refine Af rfl _ _ rfl B1 3 rfl C1 MC.out underlying27 rfl Nq.out ?_) | (refine Af rfl _ _ rfl B2 3 rfl C2 MB.out underlying27 rfl Np.out ?_) | fail)
   go_ret
   exact ⟨rfl, Ld.out⟩
  rw [if_neg hss] at hres
  rw [dF hss] at O9
  clear hss
  have c0 : w5.cell? ⟨w.heap.size, 0, none⟩ = some (.int .i64 n) := (AO NT.out).trans p0
  have c1 : w5.cell? ⟨w.heap.size, 1, none⟩ = some (.string a) := (AO NT.out).trans p1
  have c2 : w5.cell? ⟨w.heap.size, 2, none⟩ = some (.string x) := (AO NT.out).trans p2
  have Nk := lh hres
  clear hres
  go_wp2_with (first | (refine Af rfl _ _ rfl B1 3 rfl C1 MC.out underlying27 rfl Nq.out ?_) | (refine Af rfl _ _ rfl B2 3 rfl C2 MB.out underlying27 rfl Np.out ?_) | fail)
  refine (Pe.out w5 (OC.out.below Ld.out) (HK.out.below Ld.out)).mono ?_
  rintro e' wa ⟨rfl, hb⟩
  have OI := kpB hb NT
  have NB := lh ((Ld.out).trans (hb.mono (Ld.out).size))
  have QG := kpB hb Ni
  clear hb c0 c1 c2 k10 k11 k12 k20 k21 k22
  have hres := Nk.out
  clear Nk
  by_cases hv0 : V1 = 0
  ·rw [if_pos hv0] at hres
   subst hv0
   subst hres
   have c0 : wa.cell? ⟨w.heap.size, 0, none⟩ = some (.int .i64 n) := (AO OI.out).trans p0
   have c3 : wa.cell? ⟨w.heap.size, 3, none⟩ = some (.string b) := (AO OI.out).trans p3
   have c4 : wa.cell? ⟨w.heap.size, 4, none⟩ = some (.string y) := (AO OI.out).trans p4
   have k12 : wa.cell? ⟨B1, 2, none⟩ = some (.int .i64 i1) := (AO QG.out).trans OZ
   go_wp2_with fail
   refine (Pd.out wa (OC.out.below NB.out) (HK.out.below NB.out)).mono ?_
   rintro e' wb ⟨rfl, hb⟩
   have OX := tbB NB hb
   clear hb
   go_wp2
   go_ret
   exact ⟨rfl, OX.out⟩
  ·rw [if_neg hv0] at hres
   have hv1 : (V1 != 0) = true := by simpa using hv0
   have hv2 : (V1 == 0) = false := by simpa using hv0
   subst hres
   go_wp2
   go_ret
   exact ⟨rfl, NB.out⟩
end PfD
namespace WireP
open Go Go.RowKit Go.Shelf OctetS IdentS EntS WireS OctG OctP OctQ OctA IdentP IdentR EventP EventC EntP WireT Steps Wr WireA
theorem II (w : World) (s : ByteArray) (hs : s.size ≤ 140737488351232) {l : List (List UInt8)} {y : Int} (ha : all (bl s) = (l, y)) (hbad : y ≠ 0 ∨ (y = 0 ∧ l.length ≠ 5)) :
 Calls Tryz.prog 12 #[.string s] w (RB (pfV (Cj (bl s))) w) := by
 have hA := fun w => Im.CJ w s (by unfold maxLen; omega)
 unfold BN at hA
 rw [ha] at hA
 have M8 := lh hA
 clear hA
 rw [parseP_bad ha (by omega)]
 show Calls _ _ _ w (RB (.tuple #[.agg pfZ, .int .i64 6]) w)
 obtain ⟨Z, hZ⟩ := nXe (pfZ)
 have Mw : Hid ((#[.int .i64 0, .string ⟨#[]⟩, .string ⟨#[]⟩, .string ⟨#[]⟩, .string ⟨#[]⟩] : Array Value) = Z) := lh (by rw [hZ]; kernel_rfl)
 have N8 : Hid (Z.size = 5) := lh (by rw [hZ]; kernel_rfl)
 have NS : Hid ((Tryz.prog.info? 24).map (·.size) = some Z.size) := lh (by rw [hZ]; kernel_rfl)
 have N7 : Hid (Z.all (·.oneCell') = true) := lh (by rw [hZ]; exact by simp [dlZ, pfZ, msZ, dlA, pfA, msA, byV, Cc, Value.oneCell'])
 rw [← hZ]
 obtain ⟨w0, hw0⟩ := nXe (w.alloc (.cells Z 24))
 have hb0 : Below w.heap.size w w0 := by rw [hw0]; exact bAx
 have HX0 : Hid (w0.heap[w.heap.size]? = some (.cells Z 24 (0, 0))) := lh (by rw [hw0]; exact AL _ _)
 have NC := AB HX0.out
 obtain ⟨Mm, HW0⟩ := l2h hb0 hw0
 clear hw0 hb0 hZ
 have hcase : (y != 0) = true ∨ (y = 0 ∧ ((l.length : Int) != 5) = true) := by
  rcases hbad with h | ⟨h0, h⟩
  ·exact .inl (by simpa using h)
  ·exact .inr ⟨h0, by simp; omega⟩
 clear hbad ha
 rcases hcase with hy | ⟨rfl, hy⟩
 all_goals
  go_enter func12, ntmps12
  go_wp2_with fail
  rw [Mw.out, ← HW0.out]
  refine (M8.out w0).mono ?_
  rintro e w1 ⟨v, rfl, hl, hb⟩
  obtain ⟨av, cap, rfl, _, _⟩ := (Sl.ofOwn hl).form
  clear hl
  have M4 := lh ((hb.block _ NC).trans HX0.out)
  have NU := AB M4.out
  have Mo := tbB Mm hb
  clear hb 
  clear NC
  go_wp2_with (first | (refine AC rfl _ _ _ rfl w.heap.size Z rfl (by rw [← Mw.out]; rfl) _ _ M4.out NS.out rfl N7.out ?_) | fail)
  intro wf hwf
  go_wp2
  refine bodyPost_ret (v := .tuple #[.agg Z, .int .i64 6]) (AV rfl _ _ w.heap.size 24 Z (0, 0) _ rfl (by rw [hwf.out]; exact AR M4.out) underlying24 rfl NS.out rfl) rfl ⟨rfl, by rw [hwf.out]; exact AQ Mo.out nR _⟩
theorem JZ (w : World) (s : ByteArray) (hs : s.size ≤ 140737488351232) {n a x b y : List UInt8} (ha : all (bl s) = ([n, a, x, b, y], 0)) (hno : small 63 n = none) :
 Calls Tryz.prog 12 #[.string s] w (RB (pfV (Cj (bl s))) w) := by
 have hA := fun w => Im.CJ w s (by unfold maxLen; omega)
 unfold BN at hA
 rw [ha] at hA
 have M8 := lh hA
 clear hA
 obtain ⟨N, hN⟩ := nXe (bsOf n)
 have bN : bl N = n := by rw [hN, AU]
 have zN : N.size ≤ 8192 := by rw [hN]; exact AZ ha _ (by simp)
 have HN := lh hN
 obtain ⟨A, hA⟩ := nXe (bsOf a)
 have bA : bl A = a := by rw [hA, AU]
 have zA : A.size ≤ 8192 := by rw [hA]; exact AZ ha _ (by simp)
 have HA := lh hA
 obtain ⟨X, hX⟩ := nXe (bsOf x)
 have bX : bl X = x := by rw [hX, AU]
 have zX : X.size ≤ 8192 := by rw [hX]; exact AZ ha _ (by simp)
 have HX := lh hX
 obtain ⟨D, hD⟩ := nXe (bsOf b)
 have bD : bl D = b := by rw [hD, AU]
 have zD : D.size ≤ 8192 := by rw [hD]; exact AZ ha _ (by simp)
 have HD := lh hD
 obtain ⟨Y, hY⟩ := nXe (bsOf y)
 have bY : bl Y = y := by rw [hY, AU]
 have zY : Y.size ≤ 8192 := by rw [hY]; exact AZ ha _ (by simp)
 have HY := lh hY
 obtain ⟨m, u, q, hg⟩ : ∃ m u q, Aa (bl N) = (m, u, q) := ⟨_, _, _, rfl⟩
 have HG := lh (fun w => JM.Bb w N (by unfold maxLen; omega) hg)
 have hmm := Ee hg
 unfold Av at hmm
 rw [bN] at hg
 have hcase : (q != 0) = true ∨ (q = 0 ∧ ((u : Int) != (N.size : Int)) = true) ∨ (q = 0 ∧ u = N.size ∧ 63 < m) := by
  rcases C8 63 hg with ⟨h, h'⟩ | ⟨h, h1, h'⟩ | ⟨h, h1, h2, h3, h'⟩ | ⟨h, h1, h2, h3, h'⟩
  ·exact .inl (by simpa using h)
  ·exact .inr (.inl ⟨h, by rw [hN, AY]; simp; omega⟩)
  ·exact .inr (.inr ⟨h, by rw [hN, AY]; exact h1, h2⟩)
  ·rw [hno] at h'; cases h'
 rw [Et ha, hno]
 show Calls _ _ _ w (RB (.tuple #[.agg pfZ, .int .i64 6]) w)
 obtain ⟨Z, hZ⟩ := nXe (pfZ)
 have Mw : Hid ((#[.int .i64 0, .string ⟨#[]⟩, .string ⟨#[]⟩, .string ⟨#[]⟩, .string ⟨#[]⟩] : Array Value) = Z) := lh (by rw [hZ]; kernel_rfl)
 have N8 : Hid (Z.size = 5) := lh (by rw [hZ]; kernel_rfl)
 have NS : Hid ((Tryz.prog.info? 24).map (·.size) = some Z.size) := lh (by rw [hZ]; kernel_rfl)
 have N7 : Hid (Z.all (·.oneCell') = true) := lh (by rw [hZ]; exact by simp [dlZ, pfZ, msZ, dlA, pfA, msA, byV, Cc, Value.oneCell'])
 rw [← hZ]
 obtain ⟨w0, hw0⟩ := nXe (w.alloc (.cells Z 24))
 have hb0 : Below w.heap.size w w0 := by rw [hw0]; exact bAx
 have HX0 : Hid (w0.heap[w.heap.size]? = some (.cells Z 24 (0, 0))) := lh (by rw [hw0]; exact AL _ _)
 have NC := AB HX0.out
 obtain ⟨Mm, HW0⟩ := l2h hb0 hw0
 clear hw0 hb0 hZ
 clear ha hg hno hN bN hA bA hX bX hD bD hY bY
 rcases hcase with hq | ⟨rfl, hq⟩ | ⟨rfl, rfl, hq⟩
 all_goals
  go_enter func12, ntmps12
  go_wp2_with fail
  rw [Mw.out, ← HW0.out]
  refine (M8.out w0).mono ?_
  rintro e w1 ⟨v, rfl, hl, hb⟩
  obtain ⟨B, cap, rfl, hB, hc⟩ := Cw 5 hl rfl (by omega)
  clear hl
  have Mt : w1.cell? ⟨B, 0, none⟩ = some (.string N) := by rw [HN.out]; exact hc 0 _ rfl
  have Nz : ¬ w.heap.size = B := by omega
  clear hc hB
  have M4 := lh ((hb.block _ NC).trans HX0.out)
  have NU := AB M4.out
  have Mo := tbB Mm hb
  clear hb 
  clear NC
  have Mr := Mt
  clear Mt
  go_wp2_with fail
  refine (HG.out w1).mono ?_
  rintro e w2 ⟨rfl, hb⟩
  have M3 := lh ((hb.block _ NU).trans M4.out)
  have Nv := AB M3.out
  have Mq := tbB Mo hb
  have Nc := AA hb Mr
  clear hb Mr
  clear NU
  go_wp2_with (first | (refine AC rfl _ _ _ rfl w.heap.size Z rfl (by rw [← Mw.out]; rfl) _ _ M3.out NS.out rfl N7.out ?_) | fail)
  intro wf hwf
  go_wp2
  refine bodyPost_ret (v := .tuple #[.agg Z, .int .i64 6]) (AV rfl _ _ w.heap.size 24 Z (0, 0) _ rfl (by rw [hwf.out]; exact AR M3.out) underlying24 rfl NS.out rfl) rfl ⟨rfl, by rw [hwf.out]; exact AQ Mq.out nR _⟩
theorem JQ (w : World) (s : ByteArray) (hs : s.size ≤ 140737488351232) {n a x b y : List UInt8} (ha : all (bl s) = ([n, a, x, b, y], 0)) {z : Nat} (hyes : small 63 n = some z) :
 Calls Tryz.prog 12 #[.string s] w (RB (pfV (Cj (bl s))) w) := by
 have hA := fun w => Im.CJ w s (by unfold maxLen; omega)
 unfold BN at hA
 rw [ha] at hA
 have M8 := lh hA
 clear hA
 obtain ⟨N, hN⟩ := nXe (bsOf n)
 have bN : bl N = n := by rw [hN, AU]
 have zN : N.size ≤ 8192 := by rw [hN]; exact AZ ha _ (by simp)
 have HN := lh hN
 obtain ⟨A, hA⟩ := nXe (bsOf a)
 have bA : bl A = a := by rw [hA, AU]
 have zA : A.size ≤ 8192 := by rw [hA]; exact AZ ha _ (by simp)
 have HA := lh hA
 obtain ⟨X, hX⟩ := nXe (bsOf x)
 have bX : bl X = x := by rw [hX, AU]
 have zX : X.size ≤ 8192 := by rw [hX]; exact AZ ha _ (by simp)
 have HX := lh hX
 obtain ⟨D, hD⟩ := nXe (bsOf b)
 have bD : bl D = b := by rw [hD, AU]
 have zD : D.size ≤ 8192 := by rw [hD]; exact AZ ha _ (by simp)
 have HD := lh hD
 obtain ⟨Y, hY⟩ := nXe (bsOf y)
 have bY : bl Y = y := by rw [hY, AU]
 have zY : Y.size ≤ 8192 := by rw [hY]; exact AZ ha _ (by simp)
 have HY := lh hY
 obtain ⟨m, u, q, hg⟩ : ∃ m u q, Aa (bl N) = (m, u, q) := ⟨_, _, _, rfl⟩
 have HG := lh (fun w => JM.Bb w N (by unfold maxLen; omega) hg)
 have hmm := Ee hg
 unfold Av at hmm
 rw [bN] at hg
 obtain ⟨rfl, rfl, rfl, h63⟩ : q = 0 ∧ u = N.size ∧ m = z ∧ m ≤ 63 := by
  rcases C8 63 hg with ⟨h, h'⟩ | ⟨h, h1, h'⟩ | ⟨h, h1, h2, h3, h'⟩ | ⟨h, h1, h2, h3, h'⟩
  ·rw [hyes] at h'; cases h'
  ·rw [hyes] at h'; cases h'
  ·rw [hyes] at h'; cases h'
  ·rw [hyes] at h'; cases h'; exact ⟨h, by rw [hN, AY]; exact h1, rfl, h2⟩
 rw [Et ha, hyes]
 show Calls _ _ _ w (RB (.tuple #[.agg (pfA m (bsOf a) (bsOf x) (bsOf b) (bsOf y)), .int .i64 0]) w)
 rw [← hA, ← hX, ← hD, ← hY]
 obtain ⟨Z, hZ⟩ := nXe (pfZ)
 have Mw : Hid ((#[.int .i64 0, .string ⟨#[]⟩, .string ⟨#[]⟩, .string ⟨#[]⟩, .string ⟨#[]⟩] : Array Value) = Z) := lh (by rw [hZ]; kernel_rfl)
 have N8 : Hid (Z.size = 5) := lh (by rw [hZ]; kernel_rfl)
 have NS : Hid ((Tryz.prog.info? 24).map (·.size) = some Z.size) := lh (by rw [hZ]; kernel_rfl)
 have N7 : Hid (Z.all (·.oneCell') = true) := lh (by rw [hZ]; exact by simp [dlZ, pfZ, msZ, dlA, pfA, msA, byV, Cc, Value.oneCell'])
 obtain ⟨w0, hw0⟩ := nXe (w.alloc (.cells Z 24))
 have hb0 : Below w.heap.size w w0 := by rw [hw0]; exact bAx
 have HX0 : Hid (w0.heap[w.heap.size]? = some (.cells Z 24 (0, 0))) := lh (by rw [hw0]; exact AL _ _)
 have NC := AB HX0.out
 obtain ⟨Mm, HW0⟩ := l2h hb0 hw0
 clear hw0 hb0 hZ
 obtain ⟨E1, hE1⟩ := nXe (pfA m A X D Y)
 have M9 : E1.size = 5 := by rw [hE1]; rfl
 have Nn : Hid ((Tryz.prog.info? 24).map (·.size) = some E1.size) := lh (by rw [M9, ← N8.out]; exact NS.out)
 have OV : Hid (Z.size = E1.size) := lh (by rw [M9, N8.out])
 have QO : Hid (5 = E1.size) := lh M9.symm
 have OW : Hid (E1.all (·.oneCell') = true) := lh (by rw [hE1]; simp [pfA, Value.oneCell'])
 have QP := lh hE1
 clear M9
 rw [← hE1]
 clear ha hg hyes hE1 hN bN hA bA hX bX hD bD hY bY
 go_enter func12, ntmps12
 go_wp2_with fail
 rw [Mw.out, ← HW0.out]
 refine (M8.out w0).mono ?_
 rintro e w1 ⟨v, rfl, hl, hb⟩
 obtain ⟨B, cap, rfl, hB, hc⟩ := Cw 5 hl rfl (by omega)
 clear hl
 have Mt : w1.cell? ⟨B, 0, none⟩ = some (.string N) := by rw [HN.out]; exact hc 0 _ rfl
 have NK : w1.cell? ⟨B, 1, none⟩ = some (.string A) := by rw [HA.out]; exact hc 1 _ rfl
 have NI : w1.cell? ⟨B, 2, none⟩ = some (.string X) := by rw [HX.out]; exact hc 2 _ rfl
 have NG : w1.cell? ⟨B, 3, none⟩ = some (.string D) := by rw [HD.out]; exact hc 3 _ rfl
 have NE : w1.cell? ⟨B, 4, none⟩ = some (.string Y) := by rw [HY.out]; exact hc 4 _ rfl
 have Nz : ¬ w.heap.size = B := by omega
 clear hc hB
 have M4 := lh ((hb.block _ NC).trans HX0.out)
 have NU := AB M4.out
 have Mo := tbB Mm hb
 clear hb 
 clear NC
 have Mr := Mt
 clear Mt
 have NJ := NK
 clear NK
 have NH := NI
 clear NI
 have NF := NG
 clear NG
 have ND := NE
 clear NE
 go_wp2_with fail
 refine (HG.out w1).mono ?_
 rintro e w2 ⟨rfl, hb⟩
 have M3 := lh ((hb.block _ NU).trans M4.out)
 have Nv := AB M3.out
 have Mq := tbB Mo hb
 have Nc := AA hb Mr
 have Nb := AA hb NJ
 have Na := AA hb NH
 have NZ := AA hb NF
 have NY := AA hb ND
 clear hb Mr NJ NH NF ND
 clear NU
 go_wp2_with fail
 refine wp_region_noPanic ?_
 refine Wr.BJ (S := (fun W => W.cell? ⟨B, 1, none⟩ = some (.string A) ∧ W.cell? ⟨B, 2, none⟩ = some (.string X) ∧ W.cell? ⟨B, 3, none⟩ = some (.string D) ∧ W.cell? ⟨B, 4, none⟩ = some (.string Y))) (K := []) (by kernel_rfl) ?_
 change Wr.Aq _ _ _ _ _ _ _ _ _ (World.drew w2)
 have M6 : Below w2.heap.size w2 (World.drew w2) := Bl.drew (Below.refl _ _)
 have hS0 : (World.drew w2).cell? ⟨B, 1, none⟩ = some (.string A) ∧ (World.drew w2).cell? ⟨B, 2, none⟩ = some (.string X) ∧ (World.drew w2).cell? ⟨B, 3, none⟩ = some (.string D) ∧ (World.drew w2).cell? ⟨B, 4, none⟩ = some (.string Y) := ⟨AA M6 Nb, AA M6 Na, AA M6 NZ, AA M6 NY⟩
 refine Wr.tkK (i := 0) (v := ?_) rfl (.inl ⟨by rfl, ?_⟩) hS0 ?_
 rotate_left
 ·intro wq hSw
  obtain ⟨q0, q1, q2, q3⟩ := hSw
  go_simp
  rfl
 simp only [Act.put, sxx]
 refine Wr.tkK (i := 1) (v := (.int .i64 m)) rfl (.inl ⟨by rfl, ?_⟩) hS0 ?_
 ·intro wq hSw
  obtain ⟨q0, q1, q2, q3⟩ := hSw
  have QD : IntKind.i64.wrap (m : Int) = m := IntWalk.i64_in _ (by omega)
  (go_simp; first | done | rfl | rw [QD])
 simp only [Act.put, sxx]
 refine Wr.tkK (i := 2) (v := ?_) rfl (.inl ⟨by rfl, ?_⟩) hS0 ?_
 rotate_left
 ·intro wq hSw
  obtain ⟨q0, q1, q2, q3⟩ := hSw
  go_simp
  rfl
 simp only [Act.put, sxx]
 refine Wr.tkK (i := 3) (v := ?_) rfl (.inl ⟨by rfl, ?_⟩) hS0 ?_
 rotate_left
 ·intro wq hSw
  obtain ⟨q0, q1, q2, q3⟩ := hSw
  go_simp
  rfl
 simp only [Act.put, sxx]
 refine Wr.tkK (i := 4) (v := ?_) rfl (.inl ⟨by rfl, ?_⟩) hS0 ?_
 rotate_left
 ·intro wq hSw
  obtain ⟨q0, q1, q2, q3⟩ := hSw
  go_simp
  rfl
 simp only [Act.put, sxx]
 refine Wr.tkK (i := 5) (v := ?_) rfl (.inl ⟨by rfl, ?_⟩) hS0 ?_
 rotate_left
 ·intro wq hSw
  obtain ⟨q0, q1, q2, q3⟩ := hSw
  go_simp
  rfl
 simp only [Act.put, sxx]
 refine Wr.tkK (i := 6) (v := ?_) rfl (.inl ⟨by rfl, ?_⟩) hS0 ?_
 rotate_left
 ·intro wq hSw
  obtain ⟨q0, q1, q2, q3⟩ := hSw
  go_simp
  rfl
 simp only [Act.put, sxx]
 refine Wr.tkK (i := 7) (v := ?_) rfl (.inl ⟨by rfl, ?_⟩) hS0 ?_
 rotate_left
 ·intro wq hSw
  obtain ⟨q0, q1, q2, q3⟩ := hSw
  go_simp
  rfl
 simp only [Act.put, sxx]
 refine Wr.tkK (i := 8) (v := ?_) rfl (.inl ⟨by rfl, ?_⟩) hS0 ?_
 rotate_left
 ·intro wq hSw
  obtain ⟨q0, q1, q2, q3⟩ := hSw
  go_simp
  rfl
 simp only [Act.put, sxx]
 refine Wr.tkK (i := 9) (v := ?_) rfl (.inl ⟨by rfl, ?_⟩) hS0 ?_
 rotate_left
 ·intro wq hSw
  obtain ⟨q0, q1, q2, q3⟩ := hSw
  go_simp
  rfl
 simp only [Act.put, sxx]
 refine Wr.tkK (i := 10) (v := ?_) rfl (.inl ⟨by rfl, ?_⟩) hS0 ?_
 rotate_left
 ·intro wq hSw
  obtain ⟨q0, q1, q2, q3⟩ := hSw
  go_simp
  rfl
 simp only [Act.put, sxx]
 refine Wr.tkK (i := 11) (v := ?_) rfl (.inl ⟨by rfl, ?_⟩) hS0 ?_
 rotate_left
 ·intro wq hSw
  obtain ⟨q0, q1, q2, q3⟩ := hSw
  go_simp
  rfl
 simp only [Act.put, sxx]
 refine Wr.tkK (i := 12) (v := ?_) rfl (.inl ⟨by rfl, ?_⟩) hS0 ?_
 rotate_left
 ·intro wq hSw
  obtain ⟨q0, q1, q2, q3⟩ := hSw
  go_simp
  rfl
 simp only [Act.put, sxx]
 refine Wr.tkK (i := 13) (v := ?_) rfl (.inl ⟨by rfl, ?_⟩) hS0 ?_
 rotate_left
 ·intro wq hSw
  obtain ⟨q0, q1, q2, q3⟩ := hSw
  go_simp
  rfl
 simp only [Act.put, sxx]
 refine Wr.Aw (i := 14) (v := .agg E1) rfl (by kernel_rfl) (fun _ _ _ h => h) (WrC.CR _ _ rfl (by rfl) E1 (by rw [QP.out]; kernel_rfl)) hS0 ?_
 simp only [Act.put, sxx]
 refine Wr.Ac (i := 15) (by kernel_rfl) ?_
 refine WrC.BC rfl (by rfl) _ _ _ rfl w.heap.size E1 rfl rfl _ _ (show (World.drew w2).heap[w.heap.size]? = some (.cells Z 24 (0, 0)) from M3.out) Nn.out OV.out OW.out ?_
 intro u1 hu1
 have hbX : Below w.heap.size w u1 := by rw [hu1.out]; exact AQ (Mq.out.trans (M6.mono Mq.out.size)) nR _
 have QC : u1.heap[w.heap.size]? = some (.cells E1 24 (0, 0)) := by rw [hu1.out]; exact AR (show (World.drew w2).heap[w.heap.size]? = some (.cells Z 24 (0, 0)) from M3.out)
 have hS1 : u1.cell? ⟨B, 1, none⟩ = some (.string A) ∧ u1.cell? ⟨B, 2, none⟩ = some (.string X) ∧ u1.cell? ⟨B, 3, none⟩ = some (.string D) ∧ u1.cell? ⟨B, 4, none⟩ = some (.string Y) := ⟨by rw [hu1.out]; exact (CG (by omega)).trans hS0.1, by rw [hu1.out]; exact (CG (by omega)).trans hS0.2.1, by rw [hu1.out]; exact (CG (by omega)).trans hS0.2.2.1, by rw [hu1.out]; exact (CG (by omega)).trans hS0.2.2.2⟩
 refine ⟨hS1, ?_⟩
 simp only [Act.put, sxx]
 refine Wr.tkK (i := 16) (v := ?_) rfl (.inl ⟨by rfl, ?_⟩) hS1 ?_
 rotate_left
 ·intro wq hSw
  obtain ⟨q0, q1, q2, q3⟩ := hSw
  go_simp
  rfl
 simp only [Act.put, sxx]
 refine Wr.Ai (by kernel_rfl) (NoPanic.normal ?_) _
 go_wp2
 refine bodyPost_ret (v := .tuple #[.agg E1, .int .i64 0]) (AV rfl _ _ w.heap.size 24 E1 (0, 0) _ rfl QC underlying24 rfl Nn.out rfl) rfl ⟨rfl, hbX⟩
theorem Ke (w : World) (s : ByteArray) (hs : s.size ≤ 140737488351232) :
 Calls Tryz.prog 12 #[.string s] w (RB (pfV (Cj (bl s))) w) := by
 obtain ⟨l, y, ha⟩ : ∃ l y, all (bl s) = (l, y) := ⟨_, _, rfl⟩
 by_cases h0 : y = 0
 ·subst h0
  by_cases h2 : l.length = 5
  ·match l, h2, ha with
   | [n, a, x, b, y], _, ha =>
     cases h : small 63 n with
     | none => exact JZ w s hs ha h
     | some z => exact JQ w s hs ha h
  ·exact II w s hs ha (.inr ⟨rfl, h2⟩)
 ·exact II w s hs ha (.inl h0)
end WireP
namespace PfN
open Go Go.RowKit Go.Shelf OctetS IdentS EntS OctG IdentP EntP EventC ShaA Steps KeyA TreeA WireS WireT BookA PfS PfA PfB
attribute [-go_sem] run_equalIn_agg
theorem KM (s : List UInt8) : ∃ (Y : Array Value) (W n : Int) (a x b y : ByteArray), Y = pfA n a x b y ∧ pfV (Cj s) = .tuple #[.agg Y, .int .i64 W] := by
 cases hx : Cj s with
 | none => exact ⟨pfZ, 6, 0, ⟨#[]⟩, ⟨#[]⟩, ⟨#[]⟩, ⟨#[]⟩, rfl, rfl⟩
 | some e => exact ⟨_, 0, e.server, bsOf e.a, bsOf e.sigA, bsOf e.b, bsOf e.sigB, rfl, rfl⟩
theorem tells_ok (w : World) (hv : Ag w) (hk : Al w) (p : Array Value) (n : Int) (a x b y : ByteArray) (hp : p = pfA n a x b y) (ha : a.size ≤ 140737488351232) (hx : x.size ≤ maxLen) (hb' : b.size ≤ maxLen) (hy : y.size ≤ maxLen) (s : ByteArray) (hs : s.size ≤ 140737488351232) (v : Value) (L : List Gr') (hL : Sl w v 36 L.length (L.flatMap Gr'.cs)) :
 Calls Tryz.prog 3 #[v, .agg p, .string s] w (RB (.bool true) w) := by
 obtain ⟨X, W1, rX, QX, QT, QS, gX, NV, hX, PD⟩ := hd_says (bl s)
 have a1 := fun w hv hk => G8 w s hs hv hk
 have a2 := fun w hv hk => Jt w s hs hv hk
 rw [hX] at a1 a2
 obtain ⟨T, W2, b1, b2⟩ : ∃ (T : ByteArray) (W2 : Int), (∀ w, Ag w → Al w → Calls Tryz.prog 9 #[.agg p] w (RB (.tuple #[.string T, .int .i64 W2]) w)) ∧ (∀ w, Ag w → Al w → Calls Tryz.prog 10 #[.agg p] w (RB (.tuple #[.string T, .int .i64 W2]) w)) := ⟨_, _, fun w hv hk => Ik w p n a x b y hp ha hx hb' hy, fun w hv hk => K6 w p n a x b y hp ha hx hb' hy⟩
 obtain ⟨Y, W3, nY, aY, xY, bY, yY, Nw, hY⟩ := KM (bl s)
 have c1 := fun w => WireP.IU w s hs
 have c2 := fun w => WireP.Ke w s hs
 rw [hY] at c1 c2
 obtain ⟨W4, d1, d2⟩ : ∃ (W4 : Int), (∀ w, Ag w → Al w → Sl w v 36 L.length (L.flatMap Gr'.cs) → Calls Tryz.prog 13 #[v, .agg p] w (RB (.int .i64 W4) w)) ∧ (∀ w, Ag w → Al w → Sl w v 36 L.length (L.flatMap Gr'.cs) → Calls Tryz.prog 14 #[v, .agg p] w (RB (.int .i64 W4) w)) := ⟨_, fun w hv hk hL => PfC.Ew w p n a x b y hp ha hx hb' hy v L hL hv hk, fun w hv hk hL => PfD.K4 w p n a x b y hp ha hx hb' hy v L hL hv hk⟩
 have OG : ∀ w, (Op.equalIn 10000 29 (.agg X) (.agg X)).run Tryz.prog w = .ok true w := by intro w; rw [NV.eq, EqHd.eqHd _ _ _ _ _ _ _ _ _ _ NV.len NV.len, EqHash.hEq_self]; simp
 have OE : ∀ w, (Op.equalIn 10000 24 (.agg Y) (.agg Y)).run Tryz.prog w = .ok true w := by rw [Nw]; exact fun w => PfQ.pf_self _ _ _ _ _ w
 have OA := lh (show (Tryz.prog.info? 29).map (·.size) = some X.size by rw [NV.size]; kernel_rfl)
 have PV := lh (show 36 = X.size from NV.size.symm)
 have PU := lh PD
 have OH : Y.size = 5 := by rw [Nw]; rfl
 have N9 := lh (show (Tryz.prog.info? 24).map (·.size) = some Y.size by rw [OH]; kernel_rfl)
 have PM := lh (show 5 = Y.size from OH.symm)
 have PL := lh (show Y.all (·.oneCell') = true by rw [Nw]; simp [pfA, Value.oneCell'])
 have hpn : p.size = 5 := by rw [hp]; rfl
 have NR := lh (show (Tryz.prog.info? 24).map (·.size) = some p.size by rw [hpn]; kernel_rfl)
 obtain ⟨A1, A2, B1, B2, C1, C2, D1, D2, QJ⟩ := l9h a1 a2 b1 b2 c1 c2 d1 d2 OG
 obtain ⟨QI, QN, QM, HV, HK, OC⟩ := l6h OE EqHd.guardHd PfQ.guardPf hv hk hL
 clear a1 a2 b1 b2 c1 c2 d1 d2 OG OE NV hX PD Nw hY OH hpn hp ha hx hb' hy hs hv hk hL
 obtain ⟨w0, hw0⟩ := nXe (w.alloc (.cells p 24))
 have hb0 : Below w.heap.size w w0 := by rw [hw0]; exact bAx
 have Pz : Hid (w0.heap[w.heap.size]? = some (.cells p 24 (0, 0))) := lh (by rw [hw0]; exact AL _ _)
 have O7 := AB Pz.out
 obtain ⟨Mm, HW0⟩ := l2h hb0 hw0
 have z0 := hb0.size
 clear hw0 hb0
 by_cases hbig : 65536 < s.size
 ·skip
  go_enter func3, ntmps3
  go_wp2_with fail
  rw [← HW0.out]
  refine (PfQ.Ej w0 (HV.out.below Mm.out) (HK.out.below Mm.out)).mono ?_
  rintro e' w1 ⟨rfl, hb⟩
  have HB1 := tbB Mm hb
  clear hb
  go_wp2
  go_ret
  exact ⟨rfl, HB1.out⟩
 ·skip
  go_enter func3, ntmps3
  go_wp2_with fail
  rw [← HW0.out]
  refine (A1.out w0 (HV.out.below Mm.out) (HK.out.below Mm.out)).mono ?_
  rintro e' w1 ⟨rfl, hb⟩
  have Py := lh ((hb.block _ O7).trans Pz.out)
  have O6 := AB Py.out
  have Mo := tbB Mm hb
  have z1 := Mo.out.size
  clear hb z0 O7
  go_wp2_with (first | (refine AC rfl _ _ _ rfl w1.heap.size X rfl rfl _ _ (AL _ _) OA.out (by rw [← PV.out]; rfl) PU.out ?_) | fail)
  intro u1 hu1
  have hb : Below w1.heap.size w1 u1 := by rw [hu1.out]; exact AQ bAx nR _
  have hy : u1.heap[w1.heap.size]? = some (.cells X 29 (0, 0)) := by rw [hu1.out]; exact AR (AL _ _)
  clear hu1
  obtain ⟨w2, M5⟩ : ∃ w', w' = u1 := ⟨_, rfl⟩
  rw [← M5] at hb hy ⊢
  clear M5
  obtain ⟨BX, Nz⟩ := nXe (w1.heap.size)
  rw [← Nz] at hy ⊢
  have gX : w.heap.size ≤ BX := by omega
  clear Nz
  have M7 := lh hy
  clear hy
  have Px := lh ((hb.block _ O6).trans Py.out)
  have O5 := AB Px.out
  have Mq := tbB Mo hb
  have z2 := Mq.out.size
  clear hb z1 O6
  have M3 := lh M7.out
  have Nv := AB M3.out
  clear M7
  go_wp2_with fail
  refine (A2.out w2 (HV.out.below Mq.out) (HK.out.below Mq.out)).mono ?_
  rintro e w3 ⟨rfl, hb⟩
  have Pw := lh ((hb.block _ O5).trans Px.out)
  have O4 := AB Pw.out
  have Nj := lh ((hb.block _ Nv).trans M3.out)
  have Ol := AB Nj.out
  have M0 := tbB Mq hb
  have z3 := M0.out.size
  clear hb z2 O5 Nv
  go_wp2_with (first | (refine AC rfl _ _ _ rfl w3.heap.size X rfl rfl _ _ (AL _ _) OA.out (by rw [← PV.out]; rfl) PU.out ?_) | fail)
  intro u1 hu1
  have hb : Below w3.heap.size w3 u1 := by rw [hu1.out]; exact AQ bAx nR _
  have hy : u1.heap[w3.heap.size]? = some (.cells X 29 (0, 0)) := by rw [hu1.out]; exact AR (AL _ _)
  clear hu1
  obtain ⟨w4, M5⟩ : ∃ w', w' = u1 := ⟨_, rfl⟩
  rw [← M5] at hb hy ⊢
  clear M5
  obtain ⟨BU, PK⟩ := nXe (w3.heap.size)
  rw [← PK] at hy ⊢
  have gU : w.heap.size ≤ BU := by omega
  clear PK
  have M7 := lh hy
  clear hy
  have OL := lh ((hb.block _ O4).trans Pw.out)
  have O3 := AB OL.out
  have OB := lh ((hb.block _ Ol).trans Nj.out)
  have Oj := AB OB.out
  have Mx := tbB M0 hb
  have z4 := Mx.out.size
  clear hb z3 O4 Ol
  have Pp := lh M7.out
  have Ov := AB Pp.out
  clear M7
  go_wp2_with (first | (refine wpList_load_row rfl _ _ rfl w.heap.size rfl _ p (0, 0) _ OL.out underlying24 rfl NR.out ?_) | fail)
  refine (B1.out w4 (HV.out.below Mx.out) (HK.out.below Mx.out)).mono ?_
  rintro e w5 ⟨rfl, hb⟩
  have OJ := lh ((hb.block _ O3).trans OL.out)
  have O1 := AB OJ.out
  have NT := lh ((hb.block _ Oj).trans OB.out)
  have Oi := AB NT.out
  have Po := lh ((hb.block _ Ov).trans Pp.out)
  have Ou := AB Po.out
  have Ld := tbB Mx hb
  have z5 := Ld.out.size
  clear hb z4 O3 Oj Ov
  go_wp2_with (first | (refine wpList_load_row rfl _ _ rfl w.heap.size rfl _ p (0, 0) _ OJ.out underlying24 rfl NR.out ?_) | fail)
  refine (B2.out w5 (HV.out.below Ld.out) (HK.out.below Ld.out)).mono ?_
  rintro e w6 ⟨rfl, hb⟩
  have Pv := lh ((hb.block _ O1).trans OJ.out)
  have O0 := AB Pv.out
  have Pb := lh ((hb.block _ Oi).trans NT.out)
  have Oh := AB Pb.out
  have Pn := lh ((hb.block _ Ou).trans Po.out)
  have Ot := AB Pn.out
  have Nu := tbB Ld hb
  have z6 := Nu.out.size
  clear hb z5 O1 Oi Ou
  go_wp2_with fail
  refine (C1.out w6).mono ?_
  rintro e w7 ⟨rfl, hb⟩
  have Pt := lh ((hb.block _ O0).trans Pv.out)
  have Oz := AB Pt.out
  have PY := lh ((hb.block _ Oh).trans Pb.out)
  have Og := AB PY.out
  have Pm := lh ((hb.block _ Ot).trans Pn.out)
  have Oq := AB Pm.out
  have Nt := tbB Nu hb
  have z7 := Nt.out.size
  clear hb z6 O0 Oh Ot
  go_wp2_with (first | (refine AC rfl _ _ _ rfl w7.heap.size Y rfl rfl _ _ (AL _ _) N9.out (by rw [← PM.out]; rfl) PL.out ?_) | fail)
  intro u1 hu1
  have hb : Below w7.heap.size w7 u1 := by rw [hu1.out]; exact AQ bAx nR _
  have hy : u1.heap[w7.heap.size]? = some (.cells Y 24 (0, 0)) := by rw [hu1.out]; exact AR (AL _ _)
  clear hu1
  obtain ⟨w8, M5⟩ : ∃ w', w' = u1 := ⟨_, rfl⟩
  rw [← M5] at hb hy ⊢
  clear M5
  obtain ⟨BY, PI⟩ := nXe (w7.heap.size)
  rw [← PI] at hy ⊢
  have gY : w.heap.size ≤ BY := by omega
  clear PI
  have M7 := lh hy
  clear hy
  have Ps := lh ((hb.block _ Oz).trans Pt.out)
  have Oy := AB Ps.out
  have PX := lh ((hb.block _ Og).trans PY.out)
  have Oe := AB PX.out
  have Pk := lh ((hb.block _ Oq).trans Pm.out)
  have Oo := AB Pk.out
  have Ns := tbB Nt hb
  have z8 := Ns.out.size
  clear hb z7 Oz Og Oq
  have PO := lh M7.out
  have Oc := AB PO.out
  clear M7
  go_wp2_with fail
  refine (C2.out w8).mono ?_
  rintro e w9 ⟨rfl, hb⟩
  have Pq := lh ((hb.block _ Oy).trans Ps.out)
  have Ox := AB Pq.out
  have PW := lh ((hb.block _ Oe).trans PX.out)
  have Od := AB PW.out
  have Pj := lh ((hb.block _ Oo).trans Pk.out)
  have Om := AB Pj.out
  have PN := lh ((hb.block _ Oc).trans PO.out)
  have Ob := AB PN.out
  have Nr := tbB Ns hb
  have z9 := Nr.out.size
  clear hb z8 Oy Oe Oo Oc
  go_wp2_with (first | (refine AC rfl _ _ _ rfl w9.heap.size Y rfl rfl _ _ (AL _ _) N9.out (by rw [← PM.out]; rfl) PL.out ?_) | fail)
  intro u1 hu1
  have hb : Below w9.heap.size w9 u1 := by rw [hu1.out]; exact AQ bAx nR _
  have hy : u1.heap[w9.heap.size]? = some (.cells Y 24 (0, 0)) := by rw [hu1.out]; exact AR (AL _ _)
  clear hu1
  obtain ⟨QR, M5⟩ : ∃ w', w' = u1 := ⟨_, rfl⟩
  rw [← M5] at hb hy ⊢
  clear M5
  obtain ⟨BZ, PH⟩ := nXe (w9.heap.size)
  rw [← PH] at hy ⊢
  have gZ : w.heap.size ≤ BZ := by omega
  clear PH
  have M7 := lh hy
  clear hy
  have Nl := lh ((hb.block _ Ox).trans Pq.out)
  have P9 := AB Nl.out
  have L8 := lh ((hb.block _ Od).trans PW.out)
  have Mf := AB L8.out
  have L9 := lh ((hb.block _ Om).trans Pj.out)
  have Mg := AB L9.out
  have Lx := lh ((hb.block _ Ob).trans PN.out)
  have Me := AB Lx.out
  have Mv := tbB Nr hb
  have QQ := Mv.out.size
  clear hb z9 Ox Od Om Ob
  have Lv := lh M7.out
  have Md := AB Lv.out
  clear M7
  go_wp2_with fail
  have OG := QJ.out
  have OE := QI.out
  have QV := QN.out
  have QU := QM.out
  obtain ⟨QH, QL, QK⟩ := l3h (HV.out.below Mv.out) (HK.out.below Mv.out) (OC.out.below Mv.out)
  refine Uniform.Ak (S := (fun W => W.heap[w.heap.size]? = some (.cells p 24 (0, 0)) ∧ W.heap[BX]? = some (.cells X 29 (0, 0)) ∧ W.heap[BU]? = some (.cells X 29 (0, 0)) ∧ W.heap[BY]? = some (.cells Y 24 (0, 0)) ∧ W.heap[BZ]? = some (.cells Y 24 (0, 0)) ∧ Sl W v 36 L.length (L.flatMap Gr'.cs) ∧ Ag W ∧ Al W ∧ Below w.heap.size w W)) (List.range 41) (by kernel_rfl) (by kernel_rfl) ⟨Nl.out, L8.out, L9.out, Lx.out, Lv.out, (QK.out).below (Bl.drew (Below.refl _ _)), (QH.out).below (Bl.drew (Below.refl _ _)), (QL.out).below (Bl.drew (Below.refl _ _)), (Mv.out).drew⟩ ?_
  refine ⟨_, ?_, rfl, Or.inl ⟨by rfl, fun wq hSw => Uniform.UStep.call (w' := wq) ?_ ((PfQ.Ej wq hSw.2.2.2.2.2.2.1 hSw.2.2.2.2.2.2.2.1).mono ?_)⟩, ?_⟩
  rotate_left
  ·obtain ⟨q0, q1, q2, q3, q4, q5, q6, q7, q8⟩ := hSw
   go_simp
   all_goals (and_intros <;> rfl)
  ·have PE := hSw
   obtain ⟨q0, q1, q2, q3, q4, q5, q6, q7, q8⟩ := hSw
   rintro e wq2 ⟨rfl, hbq⟩
   refine ⟨?_, (hbq.block _ (AB q0)).trans q0, (hbq.block _ (AB q1)).trans q1, (hbq.block _ (AB q2)).trans q2, (hbq.block _ (AB q3)).trans q3, (hbq.block _ (AB q4)).trans q4, q5.below hbq, q6.below hbq, q7.below hbq, q8.trans (hbq.mono q8.size)⟩
   rfl
  simp only [Act.put, sxx]
  refine ⟨_, ?_, rfl, .inl ⟨by rfl, fun wq hSw => .value (w' := wq) ?_ hSw⟩, ?_⟩
  rotate_left
  ·obtain ⟨q0, q1, q2, q3, q4, q5, q6, q7, q8⟩ := hSw
   go_simp
   rfl
  simp only [Act.put, sxx]
  refine ⟨_, _, rfl, Or.inl ⟨by rfl, fun wq hSw => Uniform.UStep.value (w' := wq) (EqHash.Ay 29 _ rfl _ rfl hSw.2.1 underlying29 rfl OA.out) hSw⟩, ?_⟩
  simp only [Act.put, sxx]
  refine ⟨_, _, rfl, Or.inl ⟨by rfl, fun wq hSw => Uniform.UStep.value (w' := wq) (EqHash.Ay 29 _ rfl _ rfl hSw.2.2.1 underlying29 rfl OA.out) hSw⟩, ?_⟩
  iterate 9
   simp only [Act.put, sxx]
   refine ⟨_, ?_, rfl, .inl ⟨by rfl, fun wq hSw => .value (w' := wq) ?_ hSw⟩, ?_⟩
   rotate_left
   ·obtain ⟨q0, q1, q2, q3, q4, q5, q6, q7, q8⟩ := hSw
    go_simp
    rfl
  simp only [Act.put, sxx]
  refine ⟨_, _, rfl, Or.inl ⟨by rfl, fun wq hSw => Uniform.UStep.value (w' := wq) (EqHash.Ay 24 _ rfl _ rfl hSw.1 underlying24 rfl NR.out) hSw⟩, ?_⟩
  simp only [Act.put, sxx]
  refine ⟨_, ?_, rfl, Or.inl ⟨by rfl, fun wq hSw => Uniform.UStep.call (w' := wq) ?_ ((D1.out wq hSw.2.2.2.2.2.2.1 hSw.2.2.2.2.2.2.2.1 hSw.2.2.2.2.2.1).mono ?_)⟩, ?_⟩
  rotate_left
  ·obtain ⟨q0, q1, q2, q3, q4, q5, q6, q7, q8⟩ := hSw
   go_simp
   all_goals (and_intros <;> rfl)
  ·have PE := hSw
   obtain ⟨q0, q1, q2, q3, q4, q5, q6, q7, q8⟩ := hSw
   rintro e wq2 ⟨rfl, hbq⟩
   refine ⟨?_, (hbq.block _ (AB q0)).trans q0, (hbq.block _ (AB q1)).trans q1, (hbq.block _ (AB q2)).trans q2, (hbq.block _ (AB q3)).trans q3, (hbq.block _ (AB q4)).trans q4, q5.below hbq, q6.below hbq, q7.below hbq, q8.trans (hbq.mono q8.size)⟩
   rfl
  simp only [Act.put, sxx]
  refine ⟨_, ?_, rfl, .inl ⟨by rfl, fun wq hSw => .value (w' := wq) ?_ hSw⟩, ?_⟩
  rotate_left
  ·obtain ⟨q0, q1, q2, q3, q4, q5, q6, q7, q8⟩ := hSw
   go_simp
   rfl
  simp only [Act.put, sxx]
  refine ⟨_, _, rfl, Or.inl ⟨by rfl, fun wq hSw => Uniform.UStep.value (w' := wq) (EqHash.Ay 24 _ rfl _ rfl hSw.1 underlying24 rfl NR.out) hSw⟩, ?_⟩
  simp only [Act.put, sxx]
  refine ⟨_, ?_, rfl, Or.inl ⟨by rfl, fun wq hSw => Uniform.UStep.call (w' := wq) ?_ ((D2.out wq hSw.2.2.2.2.2.2.1 hSw.2.2.2.2.2.2.2.1 hSw.2.2.2.2.2.1).mono ?_)⟩, ?_⟩
  rotate_left
  ·obtain ⟨q0, q1, q2, q3, q4, q5, q6, q7, q8⟩ := hSw
   go_simp
   all_goals (and_intros <;> rfl)
  ·have PE := hSw
   obtain ⟨q0, q1, q2, q3, q4, q5, q6, q7, q8⟩ := hSw
   rintro e wq2 ⟨rfl, hbq⟩
   refine ⟨?_, (hbq.block _ (AB q0)).trans q0, (hbq.block _ (AB q1)).trans q1, (hbq.block _ (AB q2)).trans q2, (hbq.block _ (AB q3)).trans q3, (hbq.block _ (AB q4)).trans q4, q5.below hbq, q6.below hbq, q7.below hbq, q8.trans (hbq.mono q8.size)⟩
   rfl
  iterate 13
   simp only [Act.put, sxx]
   refine ⟨_, ?_, rfl, .inl ⟨by rfl, fun wq hSw => .value (w' := wq) ?_ hSw⟩, ?_⟩
   rotate_left
   ·obtain ⟨q0, q1, q2, q3, q4, q5, q6, q7, q8⟩ := hSw
    go_simp
    rfl
  simp only [Act.put, sxx]
  refine ⟨_, _, rfl, Or.inl ⟨by rfl, fun wq hSw => Uniform.UStep.value (w' := wq) (EqHash.Ay 24 _ rfl _ rfl hSw.2.2.2.1 underlying24 rfl N9.out) hSw⟩, ?_⟩
  simp only [Act.put, sxx]
  refine ⟨_, _, rfl, Or.inl ⟨by rfl, fun wq hSw => Uniform.UStep.value (w' := wq) (EqHash.Ay 24 _ rfl _ rfl hSw.2.2.2.2.1 underlying24 rfl N9.out) hSw⟩, ?_⟩
  iterate 8
   simp only [Act.put, sxx]
   refine ⟨_, ?_, rfl, .inl ⟨by rfl, fun wq hSw => .value (w' := wq) ?_ hSw⟩, ?_⟩
   rotate_left
   ·obtain ⟨q0, q1, q2, q3, q4, q5, q6, q7, q8⟩ := hSw
    go_simp
    rfl
  simp only [Act.put, sxx]
  intro wz hSz
  obtain ⟨_, _, _, _, _, _, _, _, q8⟩ := hSz
  go_wp2
  go_ret
  exact ⟨rfl, q8⟩
end PfN
end Go.Proofs.YtadofbbpfgmclaaGreatDoor
