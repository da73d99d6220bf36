/-
  WHAT IS PROVED: contracts of functions, and plain laws. Condition: what each theorem names.
-/
import Derived.Test.YtadofbbpfgmclaaGreatDoorS0
import Derived.Test.YtadofbbpfgmclaaGreatDoorZTBH17
import Derived.Test.YtadofbbpfgmclaaGreatDoorZT34
set_option linter.unusedVariables false
set_option linter.unusedSimpArgs false
set_option maxRecDepth 100000
set_option maxHeartbeats 4000000
namespace Go.Proofs.YtadofbbpfgmclaaGreatDoor.PfB
open Go.Proofs.Tryz
open Go Go.RowKit Go.Shelf OctetS IdentS EntS OctP OctQ OctG IdentP EntP EventC ShaA Steps KeyA TreeA WireS WireT BookA BkF PfS PfA
theorem Jt (w : World) (s : ByteArray) (hs : s.size ≤ 140737488351232) (hv : Ag w) (hk : Al w) : Calls Tryz.prog 8 #[.string s] w (RB (hdV (says (bl s))) w) := by
 obtain ⟨F, y, r, ep, ix, pv, g, hFP, hF, hFo⟩ := hd_says (bl s)
 rw [hF]
 have HFS := lh (show (Tryz.prog.info? 29).map (·.size) = some F.size by rw [hFP.size]; kernel_rfl)
 have HFN := lh (show 36 = F.size from hFP.size.symm)
 have HFO := lh hFo
 obtain ⟨Z, hZ⟩ := nXe (zl2)
 have HLIT : Hid (zq2 Z) := lh hZ.symm
 have HZN : Hid (Z.size = 36) := lh (by rw [hZ]; rfl)
 obtain ⟨w0, hw0⟩ := nXe (w.alloc (.cells Z 29))
 have hb0 : Below w.heap.size w w0 := by rw [hw0]; exact bAx
 have HX0 := lh (show w0.heap[w.heap.size]? = some (.cells Z 29 (0, 0)) by rw [hw0]; exact AL _ _)
 obtain ⟨HBL0, HW0, HV, HK⟩ := l4h hb0 hw0 hv hk
 cases hr : WireS.read (bl s) with
 | none =>
   obtain ⟨E, hE⟩ := nXe (entZ)
   have hEn : E.size = 37 := by rw [hE]; rfl
   have hEo : E.all (·.oneCell') = true := by rw [hE]; exact BM _ _ _ _ _ _
   have hR : ∀ w, Calls Tryz.prog 25 #[.string s] w (RB (.tuple #[.agg E, .int .i64 6]) w) := fun w  => by
    have := J3.Eb w s hs
    rw [hr] at this
    rw [hE]
    exact this
   have hN : ∀ w, Calls Tryz.prog 27 #[.string s] w (RB (.tuple #[.agg F, .int .i64 y]) w) := fun w  => by
    have := K8.Eb w s hs
    rw [show Cn (bl s) = says (bl s) by unfold says; rw [hr], hF] at this
    exact this
   clear hE
   have HES := lh (show (Tryz.prog.info? 51).map (·.size) = some E.size by rw [hEn]; kernel_rfl)
   have HEN := lh (show 37 = E.size from hEn.symm)
   obtain ⟨HEO, HR, HN⟩ := l3h hEo hR hN
   clear hR hN hEn hEo hFP hF hFo hZ hw0 hb0 hs hv hk hr
   go_enter func8, ntmps8
   go_wp2_with fail
   rw [HLIT.out, ← HW0.out]
   refine (HR.out w0).mono ?_
   rintro e' w1 ⟨rfl, hb⟩
   have HX1 := kpB hb HX0
   have HBL1 := tbB HBL0 hb
   clear hb
   go_wp2_with (first | (refine AC rfl _ _ _ rfl w1.heap.size E rfl rfl _ _ (AL _ _) HES.out (by rw [← HEN.out]; rfl) HEO.out ?_) | fail)
   intro u hu
   obtain ⟨w2, hw2⟩ := nXe (u)
   rw [← hw2] at hu ⊢
   clear hw2
   have hb : Below w1.heap.size w1 w2 := by rw [hu.out]; exact AQ bAx nR _
   have HE2 := lh (show w2.heap[w1.heap.size]? = some (.cells E 51 (0, 0)) by rw [hu.out]; exact AR (AL _ _))
   obtain ⟨BE, hBE⟩ := nXe (w1.heap.size)
   rw [← hBE] at HE2 ⊢
   have HX2 := kpB hb HX1
   have HBL2 := tbB HBL1 hb
   clear hb hu hBE
   go_wp2_with fail
   refine (HN.out w2).mono ?_
   rintro e' w3 ⟨rfl, hb⟩
   have HX3 := kpB hb HX2
   have HBL3 := tbB HBL2 hb
   clear hb
   go_wp2_with (first | (refine AC rfl _ _ _ rfl w.heap.size F rfl rfl _ _ HX3.out HFS.out (by rw [HZN.out]; exact HFN.out) HFO.out ?_) | fail)
   intro wf hwf
   go_wp2
   refine bodyPost_ret (v := .tuple #[.agg F, .int .i64 y]) (WireT.AV rfl _ _ w.heap.size 29 F (0, 0) _ rfl (by rw [hwf.out]; exact AR HX3.out) underlying29 rfl HFS.out rfl) rfl ⟨rfl, by rw [hwf.out]; exact AQ HBL3.out nR _⟩
 | some e =>
   obtain ⟨hRt, hpl, hsg, htx⟩ := EntB.IM hr
   obtain ⟨E, hE⟩ := nXe (entA (bsOf e.room) e.ep e.ix e.prev (bsOf e.ev) (bsOf e.sig))
   have hEP : EntP E (bsOf e.room) e.ep e.ix e.prev (bsOf e.ev) (bsOf e.sig) := ⟨hE, hpl⟩
   have hEn : E.size = 37 := hEP.size
   have hEo : E.all (·.oneCell') = true := by rw [hE]; exact BM _ _ _ _ _ _
   have hent : Bc (bsOf e.room) e.ep e.ix e.prev (bsOf e.ev) (bsOf e.sig) = e := by
    unfold Bc
    rw [AU, AU, AU]
   have hchk : EntS.A9 e = true := EntS.BV.2 hRt
   have hsy : says (bl s) = some (ofE e) := by unfold says; rw [hr]
   rw [hsy] at hF
   have hy : y = 0 ∧ F = HdT.ofA (bsOf e.room) e.ep e.ix e := by
    have h1 : hdV (some (ofE e)) = .tuple #[.agg (HdT.ofA (bsOf e.room) e.ep e.ix e), .int .i64 0] := by
        unfold HdT.ofA
        rw [if_pos hchk]
        show Value.tuple #[.agg (hdA (bsOf e.room) e.ep e.ix (ShaS.sum (EntS.text e)) (bsOf [])), .int .i64 0] = _
        rw [show (EntX.sumE e).l = ShaS.sum (EntS.text e) by unfold EntX.sumE; first | rfl | (rw [if_pos hchk]; rfl)]
        rfl
    rw [h1] at hF
    injection hF with hF
    have h2 := congrArg (·[0]?) hF
    have h3 := congrArg (·[1]?) hF
    simp at h2 h3
    exact ⟨h3.symm, h2.symm⟩
   obtain ⟨rfl, hyF⟩ := hy
   have hroom := IdentS.Du hRt.room
   have hev := hRt.ev
   have hsig := hRt.sig
   have hR : ∀ w, Calls Tryz.prog 25 #[.string s] w (RB (.tuple #[.agg E, .int .i64 0]) w) := fun w  => by
    have := J3.Eb w s hs
    rw [hr] at this
    rw [hE]
    exact this
   have hN : ∀ w, Ag w → Al w → Calls Tryz.prog 26 #[.agg E] w (RB (.tuple #[.agg F, .int .i64 0]) w) := fun w hv hk => by
    have := HdU.MQ w E (bsOf e.room) e.ep e.ix e.prev (bsOf e.ev) (bsOf e.sig) hEP hv hk (by rw [AY]; omega) (by rw [AY]; unfold maxLen; omega) (by rw [AY]; unfold maxLen; omega)
    rw [hent, hchk, ← hyF] at this
    exact this
   clear hE hEP hent hchk hsy hyF hroom hev hsig hRt hpl hsg htx
   have HES := lh (show (Tryz.prog.info? 51).map (·.size) = some E.size by rw [hEn]; kernel_rfl)
   have HEN := lh (show 37 = E.size from hEn.symm)
   obtain ⟨HEO, HR, HN⟩ := l3h hEo hR hN
   clear hR hN hEn hEo hFP hF hFo hZ hw0 hb0 hs hv hk hr
   go_enter func8, ntmps8
   go_wp2_with fail
   rw [HLIT.out, ← HW0.out]
   refine (HR.out w0).mono ?_
   rintro e' w1 ⟨rfl, hb⟩
   have HX1 := kpB hb HX0
   have HBL1 := tbB HBL0 hb
   clear hb
   go_wp2_with (first | (refine AC rfl _ _ _ rfl w1.heap.size E rfl rfl _ _ (AL _ _) HES.out (by rw [← HEN.out]; rfl) HEO.out ?_) | fail)
   intro u hu
   obtain ⟨w2, hw2⟩ := nXe (u)
   rw [← hw2] at hu ⊢
   clear hw2
   have hb : Below w1.heap.size w1 w2 := by rw [hu.out]; exact AQ bAx nR _
   have HE2 := lh (show w2.heap[w1.heap.size]? = some (.cells E 51 (0, 0)) by rw [hu.out]; exact AR (AL _ _))
   obtain ⟨BE, hBE⟩ := nXe (w1.heap.size)
   rw [← hBE] at HE2 ⊢
   have HX2 := kpB hb HX1
   have HBL2 := tbB HBL1 hb
   clear hb hu hBE
   go_wp2_with (first | (refine wpList_load_row rfl _ _ rfl BE rfl _ E (0, 0) _ HE2.out underlying51 rfl HES.out ?_) | fail)
   refine (HN.out w2 (HV.out.below HBL2.out) (HK.out.below HBL2.out)).mono ?_
   rintro e' w3 ⟨rfl, hb⟩
   have HX3 := kpB hb HX2
   have HBL3 := tbB HBL2 hb
   clear hb
   go_wp2_with (first | (refine AC rfl _ _ _ rfl w.heap.size F rfl rfl _ _ HX3.out HFS.out (by rw [HZN.out]; exact HFN.out) HFO.out ?_) | fail)
   intro wf hwf
   go_wp2
   refine bodyPost_ret (v := .tuple #[.agg F, .int .i64 0]) (WireT.AV rfl _ _ w.heap.size 29 F (0, 0) _ rfl (by rw [hwf.out]; exact AR HX3.out) underlying29 rfl HFS.out rfl) rfl ⟨rfl, by rw [hwf.out]; exact AQ HBL3.out nR _⟩
theorem J6 (w : World) (p : Array Value) (n : Int) (a x b y : ByteArray) (hp : p = pfA n a x b y) (ha : a.size ≤ 140737488351232) (hx : x.size ≤ maxLen) (hb' : b.size ≤ maxLen) (hy : y.size ≤ maxLen) :
 Calls Tryz.prog 31 #[.agg p] w (RB (.bool (Ct (pfOf n a x b y))) w) := by
 rw [right_of]
 have p0 : p[0]? = some (.int .i64 n) := by rw [hp]; rfl
 have p1 : p[1]? = some (.string a) := by rw [hp]; rfl
 have p2 : p[2]? = some (.string x) := by rw [hp]; rfl
 have p3 : p[3]? = some (.string b) := by rw [hp]; rfl
 have p4 : p[4]? = some (.string y) := by rw [hp]; rfl
 have HpS := lh (show (Tryz.prog.info? 24).map (·.size) = some p.size by rw [hp]; kernel_rfl)
 obtain ⟨w0, hw0⟩ := nXe (w.alloc (.cells p 24))
 have hb0 : Below w.heap.size w w0 := by rw [hw0]; exact bAx
 have hx0 : w0.heap[w.heap.size]? = some (.cells p 24 (0, 0)) := by rw [hw0]; exact AL _ _
 obtain ⟨HX0, HBL0, HW0⟩ := l3h hx0 hb0 hw0
 unfold maxLen at hx hb' hy
 have hxe : (w.alloc (.cells p 24)).heap[w.heap.size]? = some (.cells p 24 (0, 0)) := AL _ _
 have c0 : (w.alloc (.cells p 24)).cell? ⟨w.heap.size, 0, none⟩ = some (.int .i64 n) := (AO hxe).trans p0
 have c1 : (w.alloc (.cells p 24)).cell? ⟨w.heap.size, 1, none⟩ = some (.string a) := (AO hxe).trans p1
 have c2 : (w.alloc (.cells p 24)).cell? ⟨w.heap.size, 2, none⟩ = some (.string x) := (AO hxe).trans p2
 have c3 : (w.alloc (.cells p 24)).cell? ⟨w.heap.size, 3, none⟩ = some (.string b) := (AO hxe).trans p3
 have c4 : (w.alloc (.cells p 24)).cell? ⟨w.heap.size, 4, none⟩ = some (.string y) := (AO hxe).trans p4
 have hbe : Below w.heap.size w (w.alloc (.cells p 24)) := bAx
 have HBE := lh hbe
 clear hxe hbe HX0 HBL0 HW0 p1 p2 p3 p4
 have c00 : ((w.alloc (.cells p 24)).alloc (.cells #[.string a, .string x, .string b, .string y] 9)).cell? ⟨w.heap.size, 0, none⟩ = some (.int .i64 n) := by rw [AO (Ao (AL _ _) _)]; exact p0
 clear hp hx0 hb0 hw0 p0
 by_cases ha : a.size ≤ 8192
 rotate_left
 ·rw [dF ha]
  simp only [Bool.false_and, Bool.and_false]
  have da : decide ((8192 : Int) < (a.size : Int)) = true := dT (by omega)
  have ea : decide (8192 < a.size) = true := dT (by omega)
  have fa : 8192 < a.size := by omega
  go_enter func31, ntmps31
  go_wp2_with fail
  refine wp_loop_rounds 1 ?_
  rw [rounds_succ]
  go_wp2
  go_ret
  exact ⟨rfl, HBE.out.alloc (by simp) _⟩
 rw [dT ha]
 have da : decide ((8192 : Int) < (a.size : Int)) = false := dF (by omega)
 have ea : decide (8192 < a.size) = false := dF (by omega)
 have fa : ¬ 8192 < a.size := by omega
 by_cases hx : x.size ≤ 8192
 rotate_left
 ·rw [dF hx]
  simp only [Bool.false_and, Bool.and_false]
  have dx : decide ((8192 : Int) < (x.size : Int)) = true := dT (by omega)
  have ex : decide (8192 < x.size) = true := dT (by omega)
  have fx : 8192 < x.size := by omega
  go_enter func31, ntmps31
  go_wp2_with fail
  refine wp_loop_rounds 2 ?_
  rw [rounds_succ]
  go_wp2
  rw [rounds_succ]
  go_wp2
  go_ret
  exact ⟨rfl, HBE.out.alloc (by simp) _⟩
 rw [dT hx]
 have dx : decide ((8192 : Int) < (x.size : Int)) = false := dF (by omega)
 have ex : decide (8192 < x.size) = false := dF (by omega)
 have fx : ¬ 8192 < x.size := by omega
 by_cases hb : b.size ≤ 8192
 rotate_left
 ·rw [dF hb]
  simp only [Bool.false_and, Bool.and_false]
  have db : decide ((8192 : Int) < (b.size : Int)) = true := dT (by omega)
  have eb : decide (8192 < b.size) = true := dT (by omega)
  have fb : 8192 < b.size := by omega
  go_enter func31, ntmps31
  go_wp2_with fail
  refine wp_loop_rounds 3 ?_
  iterate 3
   rw [rounds_succ]
   go_wp2
  go_ret
  exact ⟨rfl, HBE.out.alloc (by simp) _⟩
 rw [dT hb]
 have db : decide ((8192 : Int) < (b.size : Int)) = false := dF (by omega)
 have eb : decide (8192 < b.size) = false := dF (by omega)
 have fb : ¬ 8192 < b.size := by omega
 by_cases hy : y.size ≤ 8192
 rotate_left
 ·rw [dF hy]
  simp only [Bool.false_and, Bool.and_false]
  have dy : decide ((8192 : Int) < (y.size : Int)) = true := dT (by omega)
  have ey : decide (8192 < y.size) = true := dT (by omega)
  have fy : 8192 < y.size := by omega
  go_enter func31, ntmps31
  go_wp2_with fail
  refine wp_loop_rounds 4 ?_
  iterate 4
   rw [rounds_succ]
   go_wp2
  go_ret
  exact ⟨rfl, HBE.out.alloc (by simp) _⟩
 rw [dT hy]
 have dy : decide ((8192 : Int) < (y.size : Int)) = false := dF (by omega)
 have ey : decide (8192 < y.size) = false := dF (by omega)
 have fy : ¬ 8192 < y.size := by omega
 simp only [Bool.true_and, Bool.and_true]
 by_cases h0 : 0 ≤ n
 ·rw [dT h0, Bool.true_and]
  have d0 : decide (0 ≤ n) = true := dT h0
  go_enter func31, ntmps31
  go_wp2_with fail
  refine wp_loop_rounds 5 ?_
  iterate 5
   rw [rounds_succ]
   go_wp2
  go_ret
  exact ⟨rfl, HBE.out.alloc (by simp) _⟩
 ·rw [dF h0, Bool.false_and]
  have d0 : decide (0 ≤ n) = false := dF h0
  go_enter func31, ntmps31
  go_wp2_with fail
  refine wp_loop_rounds 5 ?_
  iterate 5
   rw [rounds_succ]
   go_wp2
  go_ret
  exact ⟨rfl, HBE.out.alloc (by simp) _⟩
theorem K6 (w : World) (p : Array Value) (n : Int) (a x b y : ByteArray) (hp : p = pfA n a x b y) (ha : a.size ≤ 140737488351232) (hx : x.size ≤ maxLen) (hb' : b.size ≤ maxLen) (hy : y.size ≤ maxLen) :
 Calls Tryz.prog 10 #[.agg p] w (RB (.tuple #[.string (bsOf (if Ct (pfOf n a x b y) = true then EB (pfOf n a x b y) else [])), .int .i64 (if Ct (pfOf n a x b y) = true then 0 else 2)]) w) := by
 have hR := fun w => J6 w p n a x b y hp ha hx hb' hy
 have p0 : p[0]? = some (.int .i64 n) := by rw [hp]; rfl
 have p1 : p[1]? = some (.string a) := by rw [hp]; rfl
 have p2 : p[2]? = some (.string x) := by rw [hp]; rfl
 have p3 : p[3]? = some (.string b) := by rw [hp]; rfl
 have p4 : p[4]? = some (.string y) := by rw [hp]; rfl
 have HpS := lh (show (Tryz.prog.info? 24).map (·.size) = some p.size by rw [hp]; kernel_rfl)
 obtain ⟨w0, hw0⟩ := nXe (w.alloc (.cells p 24))
 have hb0 : Below w.heap.size w w0 := by rw [hw0]; exact bAx
 have hx0 : w0.heap[w.heap.size]? = some (.cells p 24 (0, 0)) := by rw [hw0]; exact AL _ _
 obtain ⟨HX0, HBL0, HW0⟩ := l3h hx0 hb0 hw0
 unfold maxLen at hx hb' hy
 cases hc : Ct (pfOf n a x b y)
 ·rw [hc] at hR
  simp only [Bool.false_eq_true, if_false]
  have HR := lh hR
  clear hR hc hp hb0 hw0
  go_enter func10, ntmps10
  go_wp2_with (first | (rw [← HW0.out]; refine wpList_load_row rfl _ _ rfl w.heap.size rfl _ p (0, 0) _ HX0.out underlying24 rfl HpS.out ?_) | fail)
  refine (HR.out w0).mono ?_
  rintro e' w1 ⟨rfl, hb⟩
  have HBL1 := tbB HBL0 hb
  clear hb
  go_wp2
  go_ret2
  exact ⟨rfl, HBL1.out⟩
 ·rw [hc] at hR
  simp only [if_true]
  have hfit := Ef hc
  obtain ⟨h0, h1, _⟩ := CX.1 hc
  obtain ⟨m, rfl⟩ : ∃ m : Nat, n = m := ⟨n.toNat, by simp only [pfOf] at h0; omega⟩
  simp only [pfOf] at h1
  have hparts : Dp (pfOf m a x b y) = [bsOf (num m), a, x, b, y].map bl := by
   simp [Dp, pfOf, AU]
  unfold EB
  rw [hparts] at hfit ⊢
  have hL := fun w v h => Kn.Gd w v [bsOf (num m), a, x, b, y] h hfit
  have hN := fun w => Iq.EW w m (by unfold Av; omega)
  obtain ⟨out, hout⟩ := nXe (bsOf (OctetS.list ([bsOf (num m), a, x, b, y].map bl)))
  obtain ⟨n1, hn1⟩ := nXe (bsOf (num m))
  rw [← hn1] at hN
  rw [← hout]
  rw [← hout, ← hn1] at hL
  obtain ⟨HR, HN, HL⟩ := l3h hR hN hL
  have hu64 : IntKind.u64.wrap (m : Int) = (m : Int) := by rw [IntKind.wrap_u64]; omega
  clear hR hN hL hn1 hout hparts hfit hc hp hb0 hw0 h0
  go_enter func10, ntmps10
  go_wp2_with (first | (rw [← HW0.out]; refine wpList_load_row rfl _ _ rfl w.heap.size rfl _ p (0, 0) _ HX0.out underlying24 rfl HpS.out ?_) | fail)
  refine (HR.out w0).mono ?_
  rintro e' w1 ⟨rfl, hb⟩
  have hx1 := (hb.block _ (AB hx0)).trans hx0
  have HBL1 := tbB HBL0 hb
  clear hb
  have c0 : w1.cell? ⟨w.heap.size, 0, none⟩ = some (.int .i64 (m : Int)) := (AO hx1).trans p0
  go_wp2_with fail
  refine (HN.out w1).mono ?_
  rintro e' w2 ⟨rfl, hb⟩
  have hx2 := (hb.block _ (AB hx1)).trans hx1
  have HBL2 := tbB HBL1 hb
  clear hb c0
  have c1 : w2.cell? ⟨w.heap.size, 1, none⟩ = some (.string a) := (AO hx2).trans p1
  have c2 : w2.cell? ⟨w.heap.size, 2, none⟩ = some (.string x) := (AO hx2).trans p2
  have c3 : w2.cell? ⟨w.heap.size, 3, none⟩ = some (.string b) := (AO hx2).trans p3
  have c4 : w2.cell? ⟨w.heap.size, 4, none⟩ = some (.string y) := (AO hx2).trans p4
  go_wp2_with fail
  refine (HL.out _ _ (EventB.Dz (n := 5) (AL _ _) rfl (by simp [maxLen]))).mono ?_
  rintro e' w3 ⟨rfl, hb⟩
  have HBL3 := lh (HBL2.out.trans ((((Below.refl _ w2).alloc nR _).trans (hb.mono (by simp))).mono HBL2.out.size))
  clear hb
  go_wp2
  go_ret2
  exact ⟨rfl, HBL3.out⟩
end Go.Proofs.YtadofbbpfgmclaaGreatDoor.PfB
