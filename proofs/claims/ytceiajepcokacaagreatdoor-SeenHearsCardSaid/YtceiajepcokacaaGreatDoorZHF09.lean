/-
  WHAT IS PROVED: contracts and plain laws. Condition: each names its own.
-/
import Derived.Test.YtceiajepcokacaaGreatDoorS0
import Derived.Test.YtceiajepcokacaaGreatDoorZHF08
import Derived.Laws.EntriesVeiled
import Derived.Lib.RabinKarpLaws
set_option linter.unusedVariables false
set_option linter.unusedSimpArgs false
set_option maxRecDepth 100000
set_option maxHeartbeats 4000000
namespace Go.Proofs.YtceiajepcokacaaGreatDoor
open Go.Proofs.Tryz hiding parts
namespace TreeA
open Go Go.RowKit Go.Shelf OctP OctG RowsX Lift ShaS KeyS ShaA ShaB Steps KeyA KeyC
attribute [-go_sem] Builtin.append_
/-! ### Sums as rows -/
structure H32 where
 l : List UInt8
 len : l.length = 32
def H32.cs (x : H32) : List Value := byV x.l
def H32.A (x : H32) : Array Value := (byV x.l).toArray
theorem hF : El 32 H32.cs := ⟨fun x => by unfold H32.cs; rw [AZ, x.len], fun x u hu => by
 unfold H32.cs byV at hu
 obtain ⟨b, _, rfl⟩ := List.mem_map.1 hu
 rfl⟩
theorem H32.size (x : H32) : x.A.size = 32 := by unfold H32.A; simp [AZ, x.len]
theorem H32.one (x : H32) : x.A.all (·.oneCell') = true := by unfold H32.A; simp [byV, Value.oneCell']
theorem H32.info (x : H32) : (Tryz.prog.info? 44).map (·.size) = some x.A.size := by rw [x.size]; kernel_rfl
theorem H32.ext {x y : H32} (h : x.l = y.l) : x = y := by cases x; cases y; simp only at h; subst h; rfl
def CQ : H32 := ⟨WireT.Cg, rfl⟩
def CB (x y : H32) : H32 := ⟨above x.l y.l, Ia _ _⟩
theorem sl_row (w : World) (g : Nat) (x : H32) (h : w.heap[g]? = some (.cells x.A 44 (0, 0))) : Sl w (.slice (some ⟨g, 0, none⟩) 32 32) 1 32 (byV x.l) := by
 have := EventB.EW (n := 32) h x.size.symm (by simp [maxLen])
 exact this
theorem OB (w : World) (x y : H32) (hk : Au w) : Calls Tryz.prog 59 #[.agg x.A, .agg y.A] w (RB (.agg (CB x y).A) w) := by
 obtain ⟨p, hp⟩ := nXe (x.A)
 obtain ⟨q, hq⟩ := nXe (y.A)
 obtain ⟨R, hR⟩ := nXe ((CB x y).A)
 have HRS : Hid ((Tryz.prog.info? 44).map (·.size) = some R.size) := lh (by rw [hR]; exact H32.info _)
 have HRN : Hid (32 = R.size) := lh (by rw [hR]; exact (H32.size _).symm)
 have HRO : Hid (R.all (·.oneCell') = true) := lh (by rw [hR]; exact H32.one _)
 have HR : Hid (R = (byV (sum (1 :: (x.l ++ y.l)))).toArray) := lh hR
 obtain ⟨Z, hZ⟩ := nXe (CQ.A)
 have HLIT : Hid (zq0 Z) := lh (by rw [hZ]; unfold zq0; kernel_rfl)
 have HZN : Hid (Z.size = 32) := lh (by rw [hZ]; kernel_rfl)
 obtain ⟨w0, hw0⟩ := nXe ((((w.alloc (.cells p 44)).alloc (.cells q 44)).alloc (.cells Z 44)).alloc (.cells #[.int .u8 1] 5))
 have hsz0 : w0.heap.size = w.heap.size + 4 := by rw [hw0]; simp
 have hb0 : Below w.heap.size w w0 := by rw [hw0]; exact ((bAx.alloc (by simp) _).alloc (by simp; omega) _).alloc (by simp; omega) _
 have hxp : w0.heap[w.heap.size]? = some (.cells p 44 (0, 0)) := by rw [hw0]; exact Ak (Ak (Ak (AL _ _) _) _) _
 have hxq : w0.heap[w.heap.size + 1]? = some (.cells q 44 (0, 0)) := by rw [hw0]; exact Ak (Ak (Ad _ (by simp)) _) _
 have hxz : w0.heap[w.heap.size + 2]? = some (.cells Z 44 (0, 0)) := by rw [hw0]; exact Ak (Ad _ (by simp)) _
 have hO0 : Ow w0 (w.heap.size + 3) 5 1 (.slice (some ⟨w.heap.size + 3, 0, none⟩) 1 1) 1 (byV [1]) := by
  rw [hw0]
  exact Ow.of (Oy (by simp) nR (by unfold maxLen; omega) rfl)
 have Yh : Sl w0 (.slice (some ⟨w.heap.size, 0, none⟩) 32 32) 1 32 (byV x.l) := sl_row w0 _ x (by rw [← hp]; exact hxp)
 have Yg : Sl w0 (.slice (some ⟨w.heap.size + 1, 0, none⟩) 32 32) 1 32 (byV y.l) := sl_row w0 _ y (by rw [← hq]; exact hxq)
 obtain ⟨HV, HW0, HB0, HXP, HXQ, HXZ, HG0, HSP, HSQ⟩ := l9h hk hw0 hb0 hxp hxq hxz (Gr.refl hO0) Yh Yg
 rw [← hp, ← hq, ← hR]
 clear hp hq hR hZ hw0 hb0 hxp hxq hxz hO0 Yh Yg hk
 go_enter func59, ntmps59
 go_wp2_with (at_builtin; rw [HLIT.out, ← HW0.out]; go_must (refine DT rfl _ _ _ _ rfl A8 HG0.out rfl (.slice (some ⟨w.heap.size, 0, none⟩) 32 32) 32 (byV x.l) rfl (Ext.refl _ _) ?src 33 rfl (byV (1 :: x.l)) rfl ?h63 ?hby ?hbase ?go))
 case src => exact Sl.src HSP.out underlying100 (fun u hu => by obtain ⟨b, _, rfl⟩ := List.mem_map.1 hu; rfl)
 case h63 => unfold maxLen; omega
 case hby => omega
 case hbase => omega
 case go =>
 intro a1 c1 w1 hG1 _
 have hb1 : Below w.heap.size w w1 := Ext.below ((Ext.of_below (S := fun q => some (w.heap.size + 3) = some q) HB0.out).trans hG1.ext) (fun q hq hs => by cases hs; omega)
 have bQ := lh (show Sl w1 (.slice (some ⟨w.heap.size + 1, 0, none⟩) 32 32) 1 32 (byV y.l) from HSQ.out.ext hG1.ext (fun k hk h => by simp [Value.ownBlock] at hk h; omega))
 have fq := lh (show w1.heap[w.heap.size + 2]? = some (.cells Z 44 (0, 0)) from hG1.ext.Ai HXZ.out (fun h => by simp [Value.ownBlock] at h))
 have Yc : w1.heap[w.heap.size + 1]? = some (.cells q 44 (0, 0)) := hG1.ext.Ai HXQ.out (fun h => by simp [Value.ownBlock] at h)
 obtain ⟨cxq, fxq⟩ := AA Yc
 obtain ⟨HG1, HB1⟩ := l2h hG1 hb1
 clear hG1 hb1 Yc
 go_wp2_with (at_builtin; go_must (refine DT rfl _ _ _ _ rfl A8 HG1.out rfl (.slice (some ⟨w.heap.size + 1, 0, none⟩) 32 32) 32 (byV y.l) rfl (Ext.refl _ _) ?src 65 rfl (byV (1 :: (x.l ++ y.l))) ?hz ?h63 ?hby ?hbase ?go))
 case src => exact Sl.src bQ.out underlying100 (fun u hu => by obtain ⟨b, _, rfl⟩ := List.mem_map.1 hu; rfl)
 case hz => rw [← Ao]; rfl
 case h63 => unfold maxLen; omega
 case hby => omega
 case hbase => omega
 case go =>
 intro a2 c2 w2 hG2 _
 have hb2 : Below w.heap.size w w2 := Ext.below ((Ext.of_below (S := fun q => some (w.heap.size + 3) = some q) HB0.out).trans hG2.ext) (fun q hq hs => by cases hs; omega)
 have bM := lh (show w2.heap[w.heap.size + 2]? = some (.cells Z 44 (0, 0)) from hG2.ext.Ai HXZ.out (fun h => by simp [Value.ownBlock] at h))
 have hsl := hG2.own.sl
 obtain ⟨L, hL⟩ := nXe (1 :: (x.l ++ y.l))
 have hLl : L.length = 65 := by rw [hL, List.length_cons, List.length_append, x.len, y.len]
 rw [← hL] at hsl
 have hcv := BX w2 100 9 5 underlying100 underlying5 underlying9 (.slice a2 65 c2) L (by rw [hLl]; exact hsl)
 have hSm := ShaM.Ee w2 (bsOf L) (by rw [AY, hLl]; omega) (HV.out.below hb2)
 have hRL : (byV (sum (bl (bsOf L)))).toArray = R := by rw [AV, hL]; exact HR.out.symm
 rw [hRL] at hSm
 obtain ⟨T, hT⟩ := nXe (bsOf L)
 rw [← hT] at hcv hSm
 obtain ⟨HSm, HB2⟩ := l2h hSm hb2
 clear hSm hsl hL hLl hT hRL hG2 hb2
 go_wp2_with fail
 refine HSm.out.mono ?_
 rintro e w3 ⟨rfl, hb⟩
 have HB3 := tbB HB2 hb
 have HX3 := kpB hb bM
 clear hb
 go_wp2_with (first | (refine AC rfl _ _ _ rfl (w.heap.size + 2) R rfl rfl _ _ HX3.out HRS.out (by rw [HZN.out]; exact HRN.out) HRO.out ?_) | fail)
 intro wf hwf
 go_wp2
 refine bodyPost_ret (v := .agg R) (results_cell_row rfl _ _ (w.heap.size + 2) _ R (0, 0) _ rfl (by rw [hwf.out]; exact AR HX3.out) underlying44 rfl HRS.out) rfl ⟨rfl, by rw [hwf.out]; exact AQ HB3.out (by omega) _⟩
end TreeA
namespace TreeB
open Go Go.RowKit Go.Shelf OctP OctG RowsX Lift ShaS KeyS ShaA ShaB Steps KeyA TreeA
def Cs : H32 → Nat → List H32 → H32
 | x, _, [] => x
 | x, i, p :: r => Cs (if i % 2 = 0 then CB x p else CB p x) (i / 2) r
theorem climbH_l : ∀ (L : List H32) (x : H32) (i : Nat), (Cs x i L).l = climb x.l i (L.map H32.l)
 | [], x, i => rfl
 | p :: r, x, i => by
   rw [Cs, climbH_l r, List.map_cons, climb]
   split <;> rfl
theorem and1 : ∀ a : Fin 256, bits .and .i64 (a.val : Int) 1 = ((a.val % 2 : Nat) : Int) := by decide +kernel
theorem ZC (n : Nat) (h : n < 256) : bits .and .i64 (n : Int) 1 = ((n % 2 : Nat) : Int) := and1 ⟨n, h⟩
theorem UZ (w : World) (x : H32) (i : Nat) (v : Value) (L : List H32) (hv : Sl w v 32 L.length (L.flatMap H32.cs)) (hL : L.length ≤ 7) (hi : i < 2 ^ L.length) (hk : Au w) :
 Calls Tryz.prog 79 #[.agg x.A, .int .i64 i, v] w (RB (.tuple #[.agg (Cs x i L).A, .int .i64 0]) w) := by
 have hi7 : i < 128 := Nat.lt_of_lt_of_le hi (by have : 2 ^ L.length ≤ 2 ^ 7 := Nat.pow_le_pow_right (by omega) hL; simpa using this)
 obtain ⟨a, cap, rfl, hcap, hm⟩ := hv.form
 obtain ⟨R, hR⟩ := nXe (Cs x i L)
 obtain ⟨p, hp⟩ := nXe (x.A)
 obtain ⟨Z, hZ⟩ := nXe (CQ.A)
 have HLIT : Hid (zq0 Z) := lh (by rw [hZ]; unfold zq0; kernel_rfl)
 have HZN : Hid (Z.size = 32) := lh (by rw [hZ]; kernel_rfl)
 obtain ⟨w0, hw0⟩ := nXe ((w.alloc (.cells p 44)).alloc (.cells Z 44))
 have hb0 : Below w.heap.size w w0 := by rw [hw0]; exact bAx.alloc (by simp) _
 have hx0 : w0.heap[w.heap.size]? = some (.cells x.A 44 (0, 0)) := by rw [hw0, ← hp]; exact Ak (AL _ _) _
 have hz0 : w0.heap[w.heap.size + 1]? = some (.cells Z 44 (0, 0)) := by rw [hw0]; exact Ad _ (by simp)
 obtain ⟨n, hn⟩ := nXe (L.length)
 rw [← hR, ← hp]
 rw [← hn] at hv hL hi hcap ⊢
 obtain ⟨M, hM⟩ := nXe (2 ^ n)
 have hM7 : M ≤ 128 := by rw [hM]; have : 2 ^ n ≤ 2 ^ 7 := Nat.pow_le_pow_right (by omega) hL; simpa using this
 have hsh : wrap64 ((2 : Int) ^ n) = (M : Int) := by
  have : (2 : Int) ^ n = (M : Int) := by rw [hM]; simp
  rw [this, wrap64]; omega
 rw [← hM] at hi
 clear hM
 have hd7 : decide ((7 : Int) < (n : Int)) = false := dF (by omega)
 have hd0 : decide ((i : Int) < 0) = false := dF (by omega)
 have hdM : decide ((M : Int) ≤ (i : Int)) = false := dF (by omega)
 obtain ⟨HR, HW0, HB0, HX0, HZ0, HV, Hv, Hn⟩ := l8h hR hw0 hb0 hx0 hz0 hk hv hn
 clear hR hp hZ hw0 hb0 hx0 hz0 hk hv hn
 go_enter func79, ntmps79
 go_wp2
 rw [HLIT.out, ← HW0.out]
 rw [hsh, show decide (M ≤ i) = false from dF (by omega)]
 go_loopw [1, 27] (fun q j wr => ∃ (k m : Nat) (y : H32), q = .int .i64 m ∧ j = .int .i64 k ∧ k ≤ n ∧ m ≤ 128 ∧ Hid (Cs y m (L.drop k) = R) ∧ wr.heap[w.heap.size]? = some (.cells y.A 44 (0, 0)) ∧ wr.heap[w.heap.size + 1]? = some (.cells Z 44 (0, 0)) ∧ Below w.heap.size w wr)
  (fun _ j _ => n - (intOf j).toNat)
 case atStart => exact ⟨0, i, x, rfl, rfl, by omega, by omega, lh HR.out.symm, HX0.out, HZ0.out, HB0.out⟩
 case round =>
  obtain ⟨k, m, y, rfl, rfl, hk, hm7, hR, hx, hz, hb⟩ := hrel
  have hvw := Hv.out.ext (Ext.of_below (S := fun _ => False) hb) (fun _ _ h => h)
  obtain ⟨HX, HZ, HB⟩ := l3h hx hz hb
  clear hx hz hb
  by_cases hlt : k < n
  ·skip
   obtain ⟨c, hc⟩ : ∃ c, L[k]? = some c := ⟨_, List.getElem?_eq_getElem (by rw [← Hn.out]; exact hlt)⟩
   rw [Hn.out] at hvw
   obtain ⟨b, o, rfl, hblt, hcc⟩ := BU hF (by omega) hvw hc
   have hdr : L.drop k = c :: L.drop (k + 1) := by
        have hl : k < L.length := by rw [← Hn.out]; exact hlt
        rw [List.drop_eq_getElem_cons hl]
        rw [List.getElem?_eq_getElem hl] at hc
        rw [Option.some.inj hc]
   have hR' := hR.out
   rw [hdr, Cs] at hR'
   have HR2 := lh hR'
   have Hcc := lh (show ∀ (j : Nat) (u : Value), c.A.toList[j]? = some u → wr.cell? ⟨b, o + k * 32 + j, none⟩ = some u from hcc)
   have ha := ZC m (by omega)
   obtain ⟨C, hC⟩ := nXe (c.A)
   rw [← hC] at Hcc
   have HC := lh hC
   have HCS := lh (show (Tryz.prog.info? 44).map (·.size) = some C.size by rw [hC]; exact c.info)
   have HCN := lh (show 32 = C.size by rw [hC]; exact c.size.symm)
   have HCO := lh (show C.all (·.oneCell') = true by rw [hC]; exact c.one)
   clear hc hdr hR' hvw hcc hC
   go_wp2_with (first | (refine Ah rfl _ _ rfl b (o + k * 32) rfl C Hcc.out underlying44 rfl HCS.out ?_) | (refine AC rfl _ _ _ rfl wr.heap.size C rfl rfl _ _ (AL _ _) HCS.out (by rw [← HCN.out]; rfl) HCO.out ?_) | fail)
   intro u1 hu1
   have hb : Below wr.heap.size wr u1 := by rw [hu1.out]; exact AQ bAx nR _
   have hyy : u1.heap[wr.heap.size]? = some (.cells C 44 (0, 0)) := by rw [hu1.out]; exact AR (AL _ _)
   clear hu1
   obtain ⟨w2, hww⟩ : ∃ w', w' = u1 := ⟨_, rfl⟩
   rw [← hww] at hb hyy ⊢
   clear hww
   obtain ⟨Y, hY⟩ := nXe (y.A)
   have hx2 : w2.heap[w.heap.size]? = some (.cells Y 44 (0, 0)) := by rw [hY]; exact (hb.block _ (AJ HX.out)).trans HX.out
   have HX2 := lh hx2
   have HZ2 := kpB hb HZ
   have HB2 := tbB HB hb
   have HC2 := lh hyy
   have HYS := lh (show (Tryz.prog.info? 44).map (·.size) = some Y.size by rw [hY]; exact y.info)
   have HY := lh hY
   have HA1 := lh (show ∀ w, Au w → Calls Tryz.prog 59 #[.agg Y, .agg C] w (RB (.agg (CB y c).A) w) from fun w hv => by rw [hY, HC.out]; exact OB w y c hv)
   have HA2 := lh (show ∀ w, Au w → Calls Tryz.prog 59 #[.agg C, .agg Y] w (RB (.agg (CB c y).A) w) from fun w hv => by rw [hY, HC.out]; exact OB w c y hv)
   have hR3 := HR2.out
   obtain ⟨cx, fx⟩ := AA HX2.out
   obtain ⟨cy, fy⟩ := AA HC2.out
   clear hb hyy hx2 HR2 hY
   rcases Nat.mod_two_eq_zero_or_one m with h2 | h2
   ·rw [h2] at ha
    rw [h2, if_pos rfl] at hR3
    go_wp2_with (first | (refine wpList_load_row rfl _ _ rfl w.heap.size rfl _ Y (0, 0) _ HX2.out underlying44 rfl HYS.out ?_) | (refine wpList_load_row rfl _ _ rfl wr.heap.size rfl _ C (0, 0) _ HC2.out underlying44 rfl HCS.out ?_) | fail)
    refine (HA1.out w2 (HV.out.below HB2.out)).mono ?_
    rintro e w3 ⟨rfl, hb⟩
    have HX3 := kpB hb HX2
    have HZ3 := kpB hb HZ2
    have HB3 := tbB HB2 hb
    clear hb
    obtain ⟨E, hE⟩ := nXe ((CB y c).A)
    have HES := lh (show (Tryz.prog.info? 44).map (·.size) = some E.size by rw [hE]; exact H32.info _)
    have HEN := lh (show Y.size = E.size by rw [HY.out, hE, H32.size, H32.size])
    have HEO := lh (show E.all (·.oneCell') = true by rw [hE]; exact H32.one _)
    have HE := lh hE
    rw [← hE]
    clear hE
    go_wp2_with (first | (refine AC rfl _ _ _ rfl w.heap.size E rfl rfl _ _ HX3.out HES.out HEN.out HEO.out ?_) | fail)
    intro w4 hw4
    have hx4 : w4.heap[w.heap.size]? = some (.cells (CB y c).A 44 (0, 0)) := by rw [hw4.out, ← HE.out]; exact AR HX3.out
    have hz4 : w4.heap[w.heap.size + 1]? = some (.cells Z 44 (0, 0)) := by rw [hw4.out]; exact (CO _ (by omega)).trans HZ3.out
    have hb4 : Below w.heap.size w w4 := by rw [hw4.out]; exact AQ HB3.out nR _
    obtain ⟨Hx4, Hz4, Hb4⟩ := l3h hx4 hz4 hb4
    clear hw4 hx4 hz4 hb4
    go_wp2
    go_roundw
    case rel => exact ⟨k + 1, m / 2, _, by go_num, by go_num, by omega, by omega, lh hR3, Hx4.out, Hz4.out, Hb4.out⟩
    case measure => simp [intOf]; omega
   ·rw [h2] at ha
    rw [h2, if_neg (by omega)] at hR3
    go_wp2_with (first | (refine wpList_load_row rfl _ _ rfl w.heap.size rfl _ Y (0, 0) _ HX2.out underlying44 rfl HYS.out ?_) | (refine wpList_load_row rfl _ _ rfl wr.heap.size rfl _ C (0, 0) _ HC2.out underlying44 rfl HCS.out ?_) | fail)
    refine (HA2.out w2 (HV.out.below HB2.out)).mono ?_
    rintro e w3 ⟨rfl, hb⟩
    have HX3 := kpB hb HX2
    have HZ3 := kpB hb HZ2
    have HB3 := tbB HB2 hb
    clear hb
    obtain ⟨E, hE⟩ := nXe ((CB c y).A)
    have HES := lh (show (Tryz.prog.info? 44).map (·.size) = some E.size by rw [hE]; exact H32.info _)
    have HEN := lh (show Y.size = E.size by rw [HY.out, hE, H32.size, H32.size])
    have HEO := lh (show E.all (·.oneCell') = true by rw [hE]; exact H32.one _)
    have HE := lh hE
    rw [← hE]
    clear hE
    go_wp2_with (first | (refine AC rfl _ _ _ rfl w.heap.size E rfl rfl _ _ HX3.out HES.out HEN.out HEO.out ?_) | fail)
    intro w4 hw4
    have hx4 : w4.heap[w.heap.size]? = some (.cells (CB c y).A 44 (0, 0)) := by rw [hw4.out, ← HE.out]; exact AR HX3.out
    have hz4 : w4.heap[w.heap.size + 1]? = some (.cells Z 44 (0, 0)) := by rw [hw4.out]; exact (CO _ (by omega)).trans HZ3.out
    have hb4 : Below w.heap.size w w4 := by rw [hw4.out]; exact AQ HB3.out nR _
    obtain ⟨Hx4, Hz4, Hb4⟩ := l3h hx4 hz4 hb4
    clear hw4 hx4 hz4 hb4
    go_wp2
    go_roundw
    case rel => exact ⟨k + 1, m / 2, _, by go_num, by go_num, by omega, by omega, lh hR3, Hx4.out, Hz4.out, Hb4.out⟩
    case measure => simp [intOf]; omega
  ·skip
   obtain rfl : k = n := by omega
   have hR' := hR.out
   rw [List.drop_of_length_le (by rw [← Hn.out]; exact Nat.le_refl _), Cs] at hR'
   subst hR'
   obtain ⟨Y, hY⟩ := nXe (y.A)
   have HX2 := lh (show wr.heap[w.heap.size]? = some (.cells Y 44 (0, 0)) by rw [hY]; exact HX.out)
   have HYS := lh (show (Tryz.prog.info? 44).map (·.size) = some Y.size by rw [hY]; exact y.info)
   have HYe := lh hY
   have HYN := lh (show Z.size = Y.size by rw [hY, H32.size]; exact HZN.out)
   have HYO := lh (show Y.all (·.oneCell') = true by rw [hY]; exact H32.one _)
   rw [← hY]
   clear hY HX
   go_wp2_with (first | (refine wpList_load_row rfl _ _ rfl w.heap.size rfl _ Y (0, 0) _ HX2.out underlying44 rfl HYS.out ?_) | (refine AC rfl _ _ _ rfl (w.heap.size + 1) Y rfl rfl _ _ HZ.out HYS.out HYN.out HYO.out ?_) | fail)
   intro wf hwf
   go_wp2
   refine bodyPost_ret (v := .tuple #[.agg Y, .int .i64 0]) (WireT.AU rfl _ _ (w.heap.size + 1) 44 Y (0, 0) _ rfl (by rw [hwf.out]; exact AR HZ.out) underlying44 rfl HYS.out rfl) rfl ⟨by first | rfl | rw [HYe.out], by rw [hwf.out]; exact AQ HB.out (by omega) _⟩
end TreeB
namespace TreeC
open Go Go.RowKit Go.Shelf KeyA
theorem Tc (w : World) : Calls Tryz.prog 108 #[.int .u64 1] w fun e w' => e = .returned (.int .i64 1) ∧ w = w' := by
 go_enter func108, ntmps108
 go_wp2
 go_ret
 exact ⟨by kernel_rfl, rfl⟩
theorem XD (w : World) : Calls Tryz.prog 89 #[.int .u64 1] w fun e w' => e = .returned (.int .i64 1) ∧ w = w' := by
 have H1 := lh (fun w => Tc w)
 go_enter func89, ntmps89
 go_wp2_with fail
 refine (H1.out w).mono ?_
 rintro e w1 ⟨rfl, rfl⟩
 go_wp2
 go_ret
 exact ⟨rfl, rfl⟩
theorem Xo (w : World) : Calls Tryz.prog 58 #[.int .i64 1] w fun e w' => e = .returned (.bool true) ∧ w = w' := by
 have h1 := fun w => XD w
 have H1 := lh h1
 clear h1
 go_enter func58, ntmps58
 go_wp2_with fail
 refine (H1.out w).mono ?_
 rintro e w1 ⟨rfl, rfl⟩
 go_wp2
 go_ret
 exact ⟨by first | rfl | simp, rfl⟩
theorem Ta (w : World) : Calls Tryz.prog 108 #[.int .u64 2] w fun e w' => e = .returned (.int .i64 1) ∧ w = w' := by
 go_enter func108, ntmps108
 go_wp2
 go_ret
 exact ⟨by kernel_rfl, rfl⟩
theorem XC (w : World) : Calls Tryz.prog 89 #[.int .u64 2] w fun e w' => e = .returned (.int .i64 1) ∧ w = w' := by
 have H1 := lh (fun w => Ta w)
 go_enter func89, ntmps89
 go_wp2_with fail
 refine (H1.out w).mono ?_
 rintro e w1 ⟨rfl, rfl⟩
 go_wp2
 go_ret
 exact ⟨rfl, rfl⟩
theorem Xn (w : World) : Calls Tryz.prog 58 #[.int .i64 2] w fun e w' => e = .returned (.bool true) ∧ w = w' := by
 have h1 := fun w => XC w
 have H1 := lh h1
 clear h1
 go_enter func58, ntmps58
 go_wp2_with fail
 refine (H1.out w).mono ?_
 rintro e w1 ⟨rfl, rfl⟩
 go_wp2
 go_ret
 exact ⟨by first | rfl | simp, rfl⟩
theorem TZ (w : World) : Calls Tryz.prog 108 #[.int .u64 4] w fun e w' => e = .returned (.int .i64 1) ∧ w = w' := by
 go_enter func108, ntmps108
 go_wp2
 go_ret
 exact ⟨by kernel_rfl, rfl⟩
theorem XB (w : World) : Calls Tryz.prog 89 #[.int .u64 4] w fun e w' => e = .returned (.int .i64 1) ∧ w = w' := by
 have H1 := lh (fun w => TZ w)
 go_enter func89, ntmps89
 go_wp2_with fail
 refine (H1.out w).mono ?_
 rintro e w1 ⟨rfl, rfl⟩
 go_wp2
 go_ret
 exact ⟨rfl, rfl⟩
theorem Xm (w : World) : Calls Tryz.prog 58 #[.int .i64 4] w fun e w' => e = .returned (.bool true) ∧ w = w' := by
 have h1 := fun w => XB w
 have H1 := lh h1
 clear h1
 go_enter func58, ntmps58
 go_wp2_with fail
 refine (H1.out w).mono ?_
 rintro e w1 ⟨rfl, rfl⟩
 go_wp2
 go_ret
 exact ⟨by first | rfl | simp, rfl⟩
theorem TY (w : World) : Calls Tryz.prog 108 #[.int .u64 8] w fun e w' => e = .returned (.int .i64 1) ∧ w = w' := by
 go_enter func108, ntmps108
 go_wp2
 go_ret
 exact ⟨by kernel_rfl, rfl⟩
theorem XA (w : World) : Calls Tryz.prog 89 #[.int .u64 8] w fun e w' => e = .returned (.int .i64 1) ∧ w = w' := by
 have H1 := lh (fun w => TY w)
 go_enter func89, ntmps89
 go_wp2_with fail
 refine (H1.out w).mono ?_
 rintro e w1 ⟨rfl, rfl⟩
 go_wp2
 go_ret
 exact ⟨rfl, rfl⟩
theorem Xl (w : World) : Calls Tryz.prog 58 #[.int .i64 8] w fun e w' => e = .returned (.bool true) ∧ w = w' := by
 have h1 := fun w => XA w
 have H1 := lh h1
 clear h1
 go_enter func58, ntmps58
 go_wp2_with fail
 refine (H1.out w).mono ?_
 rintro e w1 ⟨rfl, rfl⟩
 go_wp2
 go_ret
 exact ⟨by first | rfl | simp, rfl⟩
theorem Rx (w : World) : Calls Tryz.prog 108 #[.int .u64 16] w fun e w' => e = .returned (.int .i64 1) ∧ w = w' := by
 go_enter func108, ntmps108
 go_wp2
 go_ret
 exact ⟨by kernel_rfl, rfl⟩
theorem Uz (w : World) : Calls Tryz.prog 89 #[.int .u64 16] w fun e w' => e = .returned (.int .i64 1) ∧ w = w' := by
 have H1 := lh (fun w => Rx w)
 go_enter func89, ntmps89
 go_wp2_with fail
 refine (H1.out w).mono ?_
 rintro e w1 ⟨rfl, rfl⟩
 go_wp2
 go_ret
 exact ⟨rfl, rfl⟩
theorem VR (w : World) : Calls Tryz.prog 58 #[.int .i64 16] w fun e w' => e = .returned (.bool true) ∧ w = w' := by
 have h1 := fun w => Uz w
 have H1 := lh h1
 clear h1
 go_enter func58, ntmps58
 go_wp2_with fail
 refine (H1.out w).mono ?_
 rintro e w1 ⟨rfl, rfl⟩
 go_wp2
 go_ret
 exact ⟨by first | rfl | simp, rfl⟩
theorem Rw (w : World) : Calls Tryz.prog 108 #[.int .u64 32] w fun e w' => e = .returned (.int .i64 1) ∧ w = w' := by
 go_enter func108, ntmps108
 go_wp2
 go_ret
 exact ⟨by kernel_rfl, rfl⟩
theorem Uy (w : World) : Calls Tryz.prog 89 #[.int .u64 32] w fun e w' => e = .returned (.int .i64 1) ∧ w = w' := by
 have H1 := lh (fun w => Rw w)
 go_enter func89, ntmps89
 go_wp2_with fail
 refine (H1.out w).mono ?_
 rintro e w1 ⟨rfl, rfl⟩
 go_wp2
 go_ret
 exact ⟨rfl, rfl⟩
theorem VQ (w : World) : Calls Tryz.prog 58 #[.int .i64 32] w fun e w' => e = .returned (.bool true) ∧ w = w' := by
 have h1 := fun w => Uy w
 have H1 := lh h1
 clear h1
 go_enter func58, ntmps58
 go_wp2_with fail
 refine (H1.out w).mono ?_
 rintro e w1 ⟨rfl, rfl⟩
 go_wp2
 go_ret
 exact ⟨by first | rfl | simp, rfl⟩
theorem Rv (w : World) : Calls Tryz.prog 108 #[.int .u64 64] w fun e w' => e = .returned (.int .i64 1) ∧ w = w' := by
 go_enter func108, ntmps108
 go_wp2
 go_ret
 exact ⟨by kernel_rfl, rfl⟩
theorem Ux (w : World) : Calls Tryz.prog 89 #[.int .u64 64] w fun e w' => e = .returned (.int .i64 1) ∧ w = w' := by
 have H1 := lh (fun w => Rv w)
 go_enter func89, ntmps89
 go_wp2_with fail
 refine (H1.out w).mono ?_
 rintro e w1 ⟨rfl, rfl⟩
 go_wp2
 go_ret
 exact ⟨rfl, rfl⟩
theorem VP (w : World) : Calls Tryz.prog 58 #[.int .i64 64] w fun e w' => e = .returned (.bool true) ∧ w = w' := by
 have h1 := fun w => Ux w
 have H1 := lh h1
 clear h1
 go_enter func58, ntmps58
 go_wp2_with fail
 refine (H1.out w).mono ?_
 rintro e w1 ⟨rfl, rfl⟩
 go_wp2
 go_ret
 exact ⟨by first | rfl | simp, rfl⟩
theorem Qa (w : World) : Calls Tryz.prog 108 #[.int .u64 128] w fun e w' => e = .returned (.int .i64 1) ∧ w = w' := by
 go_enter func108, ntmps108
 go_wp2
 go_ret
 exact ⟨by kernel_rfl, rfl⟩
theorem TW (w : World) : Calls Tryz.prog 89 #[.int .u64 128] w fun e w' => e = .returned (.int .i64 1) ∧ w = w' := by
 have H1 := lh (fun w => Qa w)
 go_enter func89, ntmps89
 go_wp2_with fail
 refine (H1.out w).mono ?_
 rintro e w1 ⟨rfl, rfl⟩
 go_wp2
 go_ret
 exact ⟨rfl, rfl⟩
theorem UF (w : World) : Calls Tryz.prog 58 #[.int .i64 128] w fun e w' => e = .returned (.bool true) ∧ w = w' := by
 have h1 := fun w => TW w
 have H1 := lh h1
 clear h1
 go_enter func58, ntmps58
 go_wp2_with fail
 refine (H1.out w).mono ?_
 rintro e w1 ⟨rfl, rfl⟩
 go_wp2
 go_ret
 exact ⟨by first | rfl | simp, rfl⟩
theorem RV (w : World) (h : Nat) (hh : h ≤ 7) : Calls Tryz.prog 58 #[.int .i64 ((2 ^ h : Nat) : Int)] w fun e w' => e = .returned (.bool true) ∧ w = w' := by
 have hc : h = 0 ∨ h = 1 ∨ h = 2 ∨ h = 3 ∨ h = 4 ∨ h = 5 ∨ h = 6 ∨ h = 7 := by omega
 rcases hc with rfl | rfl | rfl | rfl | rfl | rfl | rfl | rfl
 ·exact Xo w
 ·exact Xn w
 ·exact Xm w
 ·exact Xl w
 ·exact VR w
 ·exact VQ w
 ·exact VP w
 ·exact UF w
end TreeC
namespace TreeD
open Go Go.RowKit Go.Shelf OctG Steps Lift KeyA TreeA
attribute [local go_sem] Oper.semAt_some
def UK (b o m : Nat) (j : Nat) : Array Value := #[.slice (some ⟨b, o + 2 * (j % m) * 32, none⟩) 2 2]
def UW (B1 B2 : Nat) (W W' : World) : Prop := W'.heap[B1]? = W.heap[B1]? ∧ W'.heap[B2]? = W.heap[B2]?
theorem FP (d : Nat) (hd : 1 ≤ d) (l B1 B2 b o m cap : Nat) (hm : m ≤ 64) (hcap : 2 * m ≤ cap) (hc2 : cap ≤ maxLen) (J Jx : List Nat → World → Prop)
 (hY : ∀ pre x W, J pre W → pre.length < m → YieldAt Fence.wide (d - 1) Tryz.prog l (UK b o m x) W fun e W' =>
  (e = .returned (.bool true) ∧ J (pre ++ [x]) W' ∧ UW B1 B2 W W') ∨ (e = .returned (.bool false) ∧ Jx (pre ++ [x]) W'))
 (W : World) (h1 : W.heap[B1]? = some (.cells #[.slice (some ⟨b, o, none⟩) (2 * m) cap] 88 (0, 0))) (h2 : W.heap[B2]? = some (.cells #[.int .i64 2] 3 (0, 0))) (h0 : J [] W) (hJd : ∀ pre W, J pre W → J pre W.drew) :
 CallsIn Fence.wide d Tryz.prog 109 #[.func (.yield l) #[] #[], .pointer (some ⟨B1, 0, none⟩), .pointer (some ⟨B2, 0, none⟩)] W fun e W' => (∃ v, e = .returned v) ∧
  ((∃ ys, ys = List.range m ∧ J ys W') ∨ (∃ pre, pre <+: List.range m ∧ Jx pre W')) := by
 unfold maxLen at hc2
 obtain ⟨HY, H1, H2, H0⟩ := l4h hY h1 h2 h0
 clear hY h1 h2 h0
 refine callsIn_of_wp func109 rfl trivial ?_ rfl
 simp only [ntmps109, List.size_toArray, List.length_cons, List.length_nil, Nat.reduceAdd, Nat.reduceSub, Array.replicate_succ, Array.replicate_zero, List.push_toArray, List.append_toArray, List.nil_append, List.cons_append]
 obtain ⟨n, hn⟩ := nXe (2 * m)
 rw [← hn] at H1 hcap
 have Hn := lh hn
 clear hn
 gi_wp2
 gi_loopw [4] (fun j wr => ∃ (k i : Nat), Hid (i = 2 * k) ∧ j = .int .i64 (i : Int) ∧ k ≤ m ∧ wr.heap[B1]? = some (.cells #[.slice (some ⟨b, o, none⟩) n cap] 88 (0, 0)) ∧ wr.heap[B2]? = some (.cells #[.int .i64 2] 3 (0, 0)) ∧ J (List.range k) wr) (fun j _ => n - (intOf j).toNat)
 case atStart => exact ⟨0, 0, lh rfl, rfl, by omega, H1.out, H2.out, H0.out⟩
 case round =>
  obtain ⟨k, i, hi, rfl, hk, h1, h2, hJ⟩ := hrel
  obtain ⟨H1', H2', HJ⟩ := l3h h1 h2 hJ
  have c1 := AO (j := 0) h1
  have c2 := AO (j := 0) h2
  have hi2 := hi.out
  have hn2 := Hn.out
  clear h1 h2 hJ
  by_cases hlt : k < m
  ·skip
   have hin : i < n := by omega
   have hin2 : i + 2 ≤ n := by omega
   have hle : i ≤ n := by omega
   have hne : ¬ cap = i := by omega
   have hmin : min (2 : Int) ((n - i : Nat) : Int) = 2 := by omega
   have ha : IntKind.i64.wrap ((i : Int) + 2) = ((i + 2 : Nat) : Int) := by rw [IntKind.wrap_i64]; omega
   have hkm := hlt
   have hsub : i + 2 - i = 2 := by omega
   clear hi2 hn2 hk hlt
   gi_wp2
   gi_region
   have hJ2 := hJd _ _ HJ.out
   obtain ⟨fn, tmps, assign, body, hy, hR⟩ := HY.out (List.range k) k _ hJ2 (by rw [List.length_range]; exact hkm)
   have hE : UK b o m k = #[.slice (some ⟨b, o + i * 32, none⟩) 2 2] := by unfold UK; rw [hi.out, Nat.mod_eq_of_lt hkm]
   rw [hE] at hy
   rw [← List.range_succ] at hR
   have HR := lh hR
   have d1 : wr.drew.cell? ⟨B1, 0, none⟩ = some (.slice (some ⟨b, o, none⟩) n cap) := c1
   have d2 : wr.drew.cell? ⟨B2, 0, none⟩ = some (.int .i64 2) := c2
   obtain ⟨wq, hwq⟩ := nXe (wr.drew)
   rw [← hwq] at hy HR d1 d2 ⊢
   have Hwq := lh hwq
   clear hJ2 hR hE c1 c2 hwq
   gi_wp2
   refine HR.out.mono ?_
   rintro e W5 (⟨rfl, hJ5, hk5⟩ | ⟨rfl, Ty⟩)
   ·have g1 : W5.heap[B1]? = some (.cells #[.slice (some ⟨b, o, none⟩) n cap] 88 (0, 0)) := by rw [hk5.1, Hwq.out]; exact H1'.out
    have g2 : W5.heap[B2]? = some (.cells #[.int .i64 2] 3 (0, 0)) := by rw [hk5.2, Hwq.out]; exact H2'.out
    obtain ⟨G1, G2⟩ := l2h g1 g2
    have e1 := AO (j := 0) g1
    have e2 := AO (j := 0) g2
    have HJ5 := lh hJ5
    clear hJ5 hk5 g1 g2 hy
    gi_wp2
    go_roundw
    case rel => exact ⟨k + 1, i + 2, lh (by have := hi.out; omega), by go_num, by omega, G1.out, G2.out, HJ5.out⟩
    case measure => simp [intOf]; omega
   ·have HJ5 := lh Ty
    clear Ty hy
    gi_wp2
    refine bodyPost_ret (results_none rfl _ _ _) rfl ?_
    refine ⟨⟨_, rfl⟩, .inr ⟨_, ?_, HJ5.out⟩⟩
    obtain ⟨q, rfl⟩ : ∃ q, m = (k + 1) + q := ⟨m - (k + 1), by omega⟩
    rw [List.range_add]
    exact List.prefix_append _ _
  ·skip
   have hin : i = n := by omega
   subst hin
   gi_wp2
   go_end0
   obtain rfl : k = m := by omega
   exact ⟨⟨_, rfl⟩, .inl ⟨_, rfl, HJ.out⟩⟩
theorem ER (d : Nat) (hd : 1 ≤ d) (B1 B2 b o m cap : Nat) (hm : m ≤ 64) (hcap : 2 * m ≤ cap) (hc2 : cap ≤ maxLen) (w : World)
 (h1 : w.heap[B1]? = some (.cells #[.slice (some ⟨b, o, none⟩) (2 * m) cap] 88 (0, 0))) (h2 : w.heap[B2]? = some (.cells #[.int .i64 2] 3 (0, 0))) :
 SeqStopsK Fence.wide d Tryz.prog 109 #[.pointer (some ⟨B1, 0, none⟩), .pointer (some ⟨B2, 0, none⟩)] (UK b o m) (UW B1 B2) (fun ys => ys = List.range m) (fun pre => pre <+: List.range m) m w := fun l J Jx W hW hJ _ hY h0 =>
 FP d hd l B1 B2 b o m cap hm hcap hc2 J Jx hY W ((hW.block B1 (AJ h1)).trans h1) ((hW.block B2 (AJ h2)).trans h2) h0
  (fun pre X hX => hJ _ _ _ none hX (by have hb := Bl.drew (Below.refl X.heap.size X); exact ⟨hb.os, hb.tape, hb.output, hb.size, fun k hk _ => hb.block k hk⟩) (fun r e => by cases e))
end TreeD
namespace KeyG
open Go Go.RowKit Go.Shelf OctP OctG RowsX Lift ShaS KeyS ShaA ShaB Steps KeyA TreeA
theorem IV : ∀ (l : List Value) (k : Nat) (acc : Array Value), acc.size = k + l.length → (l.zipIdx k).foldl (fun (cs : Array Value) x => cs.setIfInBounds x.2 x.1) acc = (acc.toList.take k ++ l).toArray
 | [], k, acc, h => by
   have : acc.toList.take k = acc.toList := List.take_of_length_le (by simp at h ⊢; omega)
   rw [this]
   simp
 | x :: r, k, acc, h => by
   rw [List.zipIdx_cons, List.foldl_cons, IV r (k + 1) _ (by simp at h ⊢; omega)]
   congr 1
   have hk : k < acc.toList.length := by simp at h ⊢; omega
   have h1 : (acc.toList.set k x).take k = acc.toList.take k := by
     rw [List.take_set]
     exact List.set_eq_of_length_le (by rw [List.length_take]; omega)
   rw [Array.toList_setIfInBounds, List.take_add_one, h1, List.getElem?_set_self hk]
   simp
theorem Fy (C : Array Value) (hC : C.size = 32) : Array.foldl (fun (cs : Array Value) x => cs.setIfInBounds x.snd x.fst) (#[.int .u8 0, .int .u8 0, .int .u8 0, .int .u8 0, .int .u8 0, .int .u8 0, .int .u8 0, .int .u8 0, .int .u8 0, .int .u8 0, .int .u8 0, .int .u8 0, .int .u8 0, .int .u8 0, .int .u8 0, .int .u8 0, .int .u8 0, .int .u8 0, .int .u8 0, .int .u8 0, .int .u8 0, .int .u8 0, .int .u8 0, .int .u8 0, .int .u8 0, .int .u8 0, .int .u8 0, .int .u8 0, .int .u8 0, .int .u8 0, .int .u8 0, .int .u8 0] : Array Value) C.zipIdx 0 32 = C := by
 have h1 : C.zipIdx.size = 32 := by simp [hC]
 rw [← h1, ← Array.foldl_toList, Array.toList_zipIdx, IV C.toList 0 _ (by simp [hC])]
 simp
theorem tyHs : BN Tryz.prog 88 44 32 32 (.agg #[.int .u8 0, .int .u8 0, .int .u8 0, .int .u8 0, .int .u8 0, .int .u8 0, .int .u8 0, .int .u8 0, .int .u8 0, .int .u8 0, .int .u8 0, .int .u8 0, .int .u8 0, .int .u8 0, .int .u8 0, .int .u8 0, .int .u8 0, .int .u8 0, .int .u8 0, .int .u8 0, .int .u8 0, .int .u8 0, .int .u8 0, .int .u8 0, .int .u8 0, .int .u8 0, .int .u8 0, .int .u8 0, .int .u8 0, .int .u8 0, .int .u8 0, .int .u8 0]) := BN.mk' (by kernel_rfl) (by kernel_rfl) rfl (by omega)
abbrev AccH (w0 w : World) (v : Value) (l : List H32) : Prop := AccR 44 32 H32.cs w0 w v l
def partH (s : List UInt8) (h : 32 ≤ s.length) : H32 := ⟨s.take 32, by rw [List.length_take]; omega⟩
def Cw : (n : Nat) → (s : List UInt8) → s.length = 32 * n → List H32
 | 0, _, _ => []
 | n + 1, s, h => partH s (by omega) :: Cw n (s.drop 32) (by rw [List.length_drop]; omega)
theorem partsH_l : ∀ (n : Nat) (s : List UInt8) (h : s.length = 32 * n), (Cw n s h).map H32.l = parts n s
 | 0, _, _ => rfl
 | n + 1, s, h => by
   rw [Cw, parts, List.map_cons, partsH_l n]
   rfl
theorem Ep : ∀ (n : Nat) (s : List UInt8) (h : s.length = 32 * n), (Cw n s h).length = n
 | 0, _, _ => rfl
 | n + 1, s, h => by rw [Cw, List.length_cons, Ep n]
theorem Un (w : World) (s : ByteArray) (n : Nat) (hn : n ≤ 7) (hs : (bl s).length = 32 * n) : Calls Tryz.prog 80 #[.string s] w fun e w' => ∃ v, e = .returned v ∧ AccH w w' v (Cw n (bl s) hs) := by
 obtain ⟨R, hR⟩ := nXe (Cw n (bl s) hs)
 rw [← hR]
 have HR := lh hR
 obtain ⟨Z, hZ⟩ := nXe (CQ.A)
 have HLIT : Hid (zq0 Z) := lh (by rw [hZ]; unfold zq0; kernel_rfl)
 have HZN : Hid (Z.size = 32) := lh (by rw [hZ]; kernel_rfl)
 have HA0 := lh (AccR.nil (f := H32.cs) (e := 44) (size := 32) w)
 clear hR hZ
 go_enter func80, ntmps80
 go_wp2
 go_loopw [0, 3] (fun q x wr => ∃ (k : Nat) (T : ByteArray) (v : Value) (l : List H32) (ht : (bl T).length = 32 * k), v = x ∧ q = .string T ∧ k ≤ n ∧ AccH w wr v l ∧ Hid (l.length + k = n) ∧ Hid (l ++ Cw k (bl T) ht = R))
  (fun q _ _ => match q with | .string T => T.size | _ => 0)
 case atStart => exact ⟨n, s, _, [], hs, rfl, rfl, Nat.le_refl _, HA0.out, lh (by simp), lh HR.out.symm⟩
 case round =>
  obtain ⟨k, T, v, l, ht, rfl, rfl, hk, hA, hlk, hp⟩ := hrel
  have hTs : T.size = 32 * k := by rw [← AP]; exact ht
  have HA := lh hA
  clear hA
  by_cases h0 : k = 0
  ·skip
   subst h0
   have hT0 : T.size = 0 := by omega
   have hR : l = R := by
        have := hp.out
        rw [Cw, List.append_nil] at this
        exact this
   subst hR
   go_wp2
   go_ret
   exact ⟨_, rfl, HA.out⟩
  ·skip
   obtain ⟨j, rfl⟩ : ∃ j, k = j + 1 := ⟨k - 1, by omega⟩
   have hgt : 0 < T.size := by omega
   have ht2 : 32 ≤ (bl T).length := by omega
   obtain ⟨ph, hh⟩ := nXe (partH (bl T) ht2)
   obtain ⟨C, hC⟩ := nXe (ph.A)
   have hrow : (Z.toList.take 0 ++ byV ((bl T).take 32) ++ Z.toList.drop (0 + 32)).toArray = C := by
        have : Z.toList.drop (0 + 32) = [] := List.drop_of_length_le (by have := HZN.out; simp; omega)
        rw [this, hC, hh]
        simp [H32.A, partH]
   obtain ⟨HRow, HC⟩ := l2h hrow hC
   have HCS := lh (show (Tryz.prog.info? 44).map (·.size) = some C.size by rw [hC]; exact ph.info)
   have hCn : C.size = 32 := by rw [hC]; exact ph.size
   clear hrow hC
   have hmin : Nat.min T.size 32 = 32 := by show min T.size 32 = 32; omega
   have hfit : 0 + 32 ≤ Z.size := by rw [HZN.out]; omega
   have hcp := WrC.He (P := Tryz.prog) (wr.alloc (.cells Z 44)) 100 9 3 5 wr.heap.size 0 32 32 T Z 44 underlying100 (by kernel_rfl) (AL _ _) 32 hmin hfit
   rw [HRow.out] at hcp
   obtain ⟨w2, XM⟩ := nXe ((wr.alloc (.cells Z 44)).setRow wr.heap.size C)
   rw [← XM] at hcp
   obtain ⟨hw2, Hcp⟩ := l2h XM hcp
   clear XM hcp
   go_wp2_with fail
   rw [HLIT.out, Hcp.out]
   have hb : Below wr.heap.size wr w2 := by rw [hw2.out]; exact AQ bAx nR _
   have HX2 := lh (show w2.heap[wr.heap.size]? = some (.cells C 44 (0, 0)) by rw [hw2.out]; exact AR (AL _ _))
   have HA2 := lh (HA.out.below hb)
   clear hw2 hb
   obtain ⟨cx, fx⟩ := AA HX2.out
   have hXb : bl (T.extract 32 T.size) = (bl T).drop 32 := by rw [Aj, List.take_of_length_le (by rw [List.length_drop, AP]; omega)]
   rw [hTs] at hXb
   have HXb := lh hXb
   have hll := hlk.out
   clear hXb
   go_wp2_with (first | (refine wpList_load_row rfl _ _ rfl wr.heap.size rfl _ C (0, 0) _ HX2.out underlying44 rfl HCS.out ?_) | (at_builtin; rw [Fy C hCn]; go_must (refine Bd tyHs hF HA2.out ph rfl _ _ rfl rfl C (by rw [HC.out]; rfl) _ rfl (by first | rfl | simp) ?hl ?hb ?go)))
   case hl => unfold maxLen; omega
   case hb => omega
   case go =>
   intro v3 w3 A3
   have HA3 := lh A3
   clear A3
   go_wp2
   go_roundw
   case rel =>
        have hlen : (bl (T.extract 32 (32 * (j + 1)))).length = 32 * j := by rw [HXb.out, List.length_drop]; omega
        refine ⟨j, _, _, _, hlen, rfl, rfl, by omega, HA3.out, lh (by rw [List.length_append]; simp; omega), lh ?_⟩
        have h1 := hp.out
        rw [Cw] at h1
        rw [← h1, List.append_assoc]
        congr 2
        have : ∀ (a b : List UInt8) (e : a = b) (ha : a.length = 32 * j) (hb : b.length = 32 * j), Cw j a ha = Cw j b hb := fun a b e ha hb => by subst e; rfl
        exact congrArg (List.cons _) (this _ _ HXb.out _ _)
   case measure => simp; omega
end KeyG
namespace TreeE
open Go Go.RowKit Go.Shelf OctP OctG RowsX Lift ShaS KeyS ShaA ShaB Steps KeyA KeyE TreeA TreeD KeyG
attribute [local go_sem] Oper.semAt_some
attribute [-go_sem] Builtin.append_
theorem chunk_ok (w : World) (a : Option Addr) (n cap : Nat) :
 Calls Tryz.prog 90 #[.slice a n cap, .int .i64 2] w fun e w' => e = .returned (.func (.func 109) #[] #[.pointer (some ⟨w.heap.size, 0, none⟩), .pointer (some ⟨w.heap.size + 1, 0, none⟩)]) ∧
  (w.alloc (.cells #[.slice a n cap] 88)).alloc (.cells #[.int .i64 2] 3) = w' := by
 go_enter func90, ntmps90
 go_wp2
 go_ret
 exact ⟨rfl, rfl⟩
theorem Cr {P : Program} {o : Oper} {a : Act} {w : World} (ty : TypeId) (x : Operand) (ho : o.op = .load ty x) (b off : Nat) (hx : a.eval x = .pointer (some ⟨b, off, none⟩)) (cs : Array Value)
 (hc : ∀ j v, cs.toList[j]? = some v → w.cell? ⟨b, off + j, none⟩ = some v) {d : TypeDesc}
 (hu : P.underlying ty = some d) (hd : (match d with | .struct _ | .array _ _ => true | _ => false) = true) (hi : (P.info? ty).map (·.size) = some cs.size) : (execOp a.eval o).run P w = .ok (.value (.agg cs)) w := by
 have hl : (loadCells ⟨b, off, none⟩ cs.toList.length).run P w = .ok cs.toList.toArray w :=
  run_loadCells_list (P := P) w ⟨b, off, none⟩ cs.toList (fun j v hv => by
   have hadd : (⟨b, off, none⟩ : Addr).add j = ⟨b, off + j, none⟩ := by unfold Addr.add; split <;> simp_all
   rw [hadd]
   exact hc j v hv)
 have hrun : (loadVar ty ⟨b, off, none⟩).run P w = .ok (.agg cs) w := by
  cases hq : P.info? ty with
  | none => simp [hq] at hi
  | some i =>
    have hs : i.size = cs.size := by simpa [hq] using hi
    have hagg : (isAgg ty).run P w = .ok true w := by
        unfold isAgg
        rw [Sem.run_bind, run_underlying hu w]
        cases d <;> simp_all
    simp only [Array.length_toList, Array.toArray_toList] at hl
    simp [loadVar, Sem.run_bind, hagg, sizeOf, typeInfo, hq, hs, hl]
 unfold execOp
 simp only [ho, hx, Instr.loadAt, Instr.sureAddr, Sem.run_bind, Sem.run_pure, Result.andThen_ok, hrun]
def GZ (L : List H32) (m j : Nat) : H32 := CB (L.getD (2 * (j % m)) CQ) (L.getD (2 * (j % m) + 1) CQ)
def QJ (L : List H32) (m : Nat) : List H32 := (List.range m).map (GZ L m)
structure InvU (w : World) (Y Z : Obj) (l : List H32) (W : World) : Prop where
 par : W.heap[w.heap.size]? = some Y
 out : ∃ u, W.heap[w.heap.size + 2]? = some (.cells #[u, .func (.func 59) #[] #[]] 120 (0, 0)) ∧ Ow W w.heap.size 44 32 u l.length (l.flatMap H32.cs) ∧ ∀ k, u.ownBlock = some k → w.heap.size + 5 ≤ k
 old : W.heap[w.heap.size + 1]? = some Z
 bel : Below w.heap.size w W
 sz : w.heap.size + 5 ≤ W.heap.size
theorem InvU.kept {w X X2 : World} {Y Z : Obj} {L : List H32} {row : Option Nat} (h : InvU w Y Z L X) (hg : X.grownBy X2 row) (hr : ∀ r, row = some r → w.heap.size + 5 ≤ r ∧ ∃ o : Obj, X.heap[r]? = some o ∧ o.isCells = false) : InvU w Y Z L X2 := by
 have hr' := fun r e => (hr r e).2
 obtain ⟨v, h1, h2, h3⟩ := h.out
 have hs := h.sz
 exact ⟨(hg.block _ (by omega) (fun e => by have := (hr _ e.symm).1; omega)).trans h.par, ⟨v, (hg.block _ (by omega) (fun e => by have := (hr _ e.symm).1; omega)).trans h1, Ew h2 hg hr', h3⟩, (hg.block _ (by omega) (fun e => by have := (hr _ e.symm).1; omega)).trans h.old, h.bel.grown hg h.bel.size (fun k hk => by have := (hr k hk).1; omega), Nat.le_trans h.sz hg.size⟩
theorem R3 {w W w3 w4 : World} {Y Z : Obj} {v v4 : Value} {n N : Nat} {xs : List Value} {l4 : List H32} (hb : Below w.heap.size w W) (hs : w.heap.size + 5 ≤ W.heap.size) (hB : W.heap[w.heap.size + 2]? = some (.cells #[v, .func (.func 59) #[] #[]] 120 (0, 0))) (hY : W.heap[w.heap.size]? = some Y) (hZ : W.heap[w.heap.size + 1]? = some Z)
 (hv : ∀ k, v.ownBlock = some k → w.heap.size + 5 ≤ k) (hO : Ow w3 w.heap.size 44 32 v n xs) (hb3 : Below W.heap.size W w3) (hg : w3.grownBy w4 v.ownBlock) (hN : N = l4.length) (hO4 : Ow w4 w.heap.size 44 32 v4 N (l4.flatMap H32.cs)) (hat : v4.ownBlock = v.ownBlock ∨ v4.ownBlock = some w3.heap.size) :
 KeepsFrom (w.heap.size + 5) W (w4.setCell ⟨w.heap.size + 2, 0, none⟩ v4) ∧ UW (w.heap.size + 3) (w.heap.size + 4) W (w4.setCell ⟨w.heap.size + 2, 0, none⟩ v4) ∧ InvU w Y Z l4 (w4.setCell ⟨w.heap.size + 2, 0, none⟩ v4) := by
 subst hN
 have hs3 := hb3.size
 have hs4 := hg.size
 have hne : ∀ k, k < w.heap.size + 5 → some k ≠ v.ownBlock := fun k h1 e => by
  have := hv k e.symm
  omega
 have hv4 : ∀ k, v4.ownBlock = some k → w.heap.size + 5 ≤ k := fun k e => by
  rcases hat with h | h
  ·exact hv k (h ▸ e)
  ·rw [h] at e
   cases e
   omega
 have hkeep : ∀ k, k < w.heap.size + 5 → w4.heap[k]? = W.heap[k]? := fun k h1 => by
  rw [hg.block k (by omega) (hne k h1)]
  exact hb3.block k (by omega)
 have hbE : Below w.heap.size W (w4.setCell ⟨w.heap.size + 2, 0, none⟩ v4) := ((hb3.mono (by omega)).grown hg (by omega) (fun k hk => by have := hv k hk; omega)).setCell (p := ⟨w.heap.size + 2, 0, none⟩) (by simp) _
 refine ⟨KeepsOthers.from (((DK hb3).trans (KeepsOthers.of_grownBy hg (GJ hO))).trans (KeepsOthers.setCell _ _ _)) _, ⟨?_, ?_⟩, ⟨?_, ⟨v4, ?_, ?_, hv4⟩, ?_, hb.trans hbE, ?_⟩⟩
 ·rw [AX _ (by omega), hkeep _ (by omega)]
 ·rw [AX _ (by omega), hkeep _ (by omega)]
 ·rw [AX _ (by omega), hkeep _ (by omega)]
  exact hY
 ·exact heap_setCell_same ((hkeep _ (by omega)).trans hB) v4
 ·exact hO4.ext (Ext.set1 w4 (w.heap.size + 2) 0 v4) (fun k hk e => by have := hv4 k hk; omega)
 ·rw [AX _ (by omega), hkeep _ (by omega)]
  exact hZ
 ·simp [World.setCell]; omega
theorem getD_at (L : List H32) (k : Nat) (h : k < L.length) : L[k]? = some (L.getD k CQ) := by
 rw [List.getD_eq_getElem?_getD, List.getElem?_eq_getElem h]
 rfl
theorem Vs (w : World) (v : Value) (L : List H32) (m : Nat) (hL : L.length = 2 * m) (hm0 : 0 < m) (hm : m ≤ 64) (hv : Sl w v 32 L.length (L.flatMap H32.cs)) (hk : Au w) :
 Calls Tryz.prog 60 #[.agg #[v, .func (.func 59) #[] #[]]] w fun e w' => ∃ v', e = .returned (.agg #[v', .func (.func 59) #[] #[]]) ∧ AccH w w' v' (QJ L m) := by
 obtain ⟨a, cap, rfl, hcap, hm63⟩ := hv.form
 obtain ⟨ab, ao, rfl, WH, _⟩ := BU hF (by omega) hv (getD_at L 0 (by omega))
 have Hv := lh hv
 rw [hL] at hcap
 obtain ⟨HV, HL, dL, HM⟩ := l4h hk hL hcap hm63
 rw [hL]
 obtain ⟨n, hn⟩ := nXe (2 * m)
 rw [← hn]
 have Hn := lh hn
 clear hv hk hL hcap hm63 hn
 refine callsIn_wide (n := 3) |>.1 ?_
 refine callsIn_of_wp_marks func60 rfl trivial ?_ rfl
 simp only [ntmps60, List.size_toArray, List.length_cons, List.length_nil, Nat.reduceAdd, Nat.reduceSub, Array.replicate_succ, Array.replicate_zero, List.push_toArray, List.append_toArray, List.nil_append, List.cons_append]
 gi_wp2_with (refine ⟨trivial, ?_⟩; gi_at_call 90; refine (callsIn_wide.2 (chunk_ok _ _ _ _)).mono ?_; rintro e w' ⟨rfl, rfl⟩)
 obtain ⟨W0, hW0⟩ := nXe (((((w.alloc (.cells #[.slice (some ⟨ab, ao, none⟩) n cap, .func (.func 59) #[] #[]] 120)).alloc (.cells #[.slice none 0 0, .nilFunc] 120)).alloc (.cells #[.slice none 0 0, .func (.func 59) #[] #[]] 120)).alloc (.cells #[.slice (some ⟨ab, ao, none⟩) n cap] 88)).alloc (.cells #[.int .i64 2] 3))
 have hsz : W0.heap.size = w.heap.size + 5 := by rw [hW0]; simp
 have hB0 : Below w.heap.size w W0 := by rw [hW0]; exact (((bAx.alloc (by simp) _).alloc (by simp; omega) _).alloc (by simp; omega) _).alloc (by simp; omega) _
 have b0 : W0.heap[w.heap.size]? = some (.cells #[.slice (some ⟨ab, ao, none⟩) n cap, .func (.func 59) #[] #[]] 120 (0, 0)) := by rw [hW0]; exact Ak (Ak (Ak (Ak (AL _ _) _) _) _) _
 have b1 : W0.heap[w.heap.size + 1]? = some (.cells #[.slice none 0 0, .nilFunc] 120 (0, 0)) := by rw [hW0]; exact Ak (Ak (Ak (Ad _ (by simp)) _) _) _
 have b2 : W0.heap[w.heap.size + 2]? = some (.cells #[.slice none 0 0, .func (.func 59) #[] #[]] 120 (0, 0)) := by rw [hW0]; exact Ak (Ak (Ad _ (by simp)) _) _
 have b3 : W0.heap[w.heap.size + 3]? = some (.cells #[.slice (some ⟨ab, ao, none⟩) (2 * m) cap] 88 (0, 0)) := by rw [hW0, ← Hn.out]; exact Ak (Ad _ (by simp)) _
 have b4 : W0.heap[w.heap.size + 4]? = some (.cells #[.int .i64 2] 3 (0, 0)) := by rw [hW0]; exact Ad _ (by simp)
 have hI0 : InvU w (.cells #[.slice (some ⟨ab, ao, none⟩) n cap, .func (.func 59) #[] #[]] 120 (0, 0)) (.cells #[.slice none 0 0, .nilFunc] 120 (0, 0)) [] W0 := ⟨b0, ⟨_, b2, Ow.nil _ _ _ _, fun k hk => by simp [Value.ownBlock] at hk⟩, b1, hB0, by omega⟩
 rw [← hW0]
 clear hW0 b0 b1 b2
 refine wpIn_rangeFunc_ownH rfl (by omega) (gf := 109) (lb := #[.pointer (some ⟨w.heap.size + 3, 0, none⟩), .pointer (some ⟨w.heap.size + 4, 0, none⟩)]) rfl trivial (enters_of func109 (by kernel_rfl) rfl)
  (ER 2 (by omega) (w.heap.size + 3) (w.heap.size + 4) ab ao m cap hm dL.out HM.out W0 b3 b4) (fun h k => ⟨k.1.trans h.1, k.2.trans h.2⟩) (fun W l o o' hl ho hc hk => ⟨World.putObj_heap_other (by omega), World.putObj_heap_other (by omega)⟩) (Below.refl _ _) (fun _ => rfl)
  (fun pre W => InvU w (.cells #[.slice (some ⟨ab, ao, none⟩) n cap, .func (.func 59) #[] #[]] 120 (0, 0)) (.cells #[.slice none 0 0, .nilFunc] 120 (0, 0)) (pre.map (GZ L m)) W)
  (fun _ _ _ => False)
  (fun pre X Y row hI hg hr => by rw [hsz] at hr; exact hI.kept hg hr)
  (fun _ _ _ _ _ hs _ _ => hs)
  hI0
  (fun x a' W => a' = { tmps := #[.agg #[.slice (some ⟨ab, ao, none⟩) n cap, .func (.func 59) #[] #[]], .pointer (some ⟨w.heap.size, 0, none⟩), .pointer (some ⟨w.heap.size + 1, 0, none⟩), .pointer (some ⟨w.heap.size + 2, 0, none⟩), .slice (some ⟨ab, ao + 2 * (x % m) * 32, none⟩) 2 2, .pointer (some ⟨w.heap.size, 1, none⟩), .func (.func 59) #[] #[], .agg #[.slice none 0 0, .func (.func 59) #[] #[]], .pointer (some ⟨w.heap.size, 0, none⟩), .slice (some ⟨ab, ao, none⟩) n cap, .func (.func 109) #[] #[.pointer (some ⟨w.heap.size + 3, 0, none⟩), .pointer (some ⟨w.heap.size + 4, 0, none⟩)], .slice (some ⟨ab, ao + 2 * (x % m) * 32, none⟩) 2 2, undef, undef, undef, undef, undef, undef, undef, undef, undef, undef, undef, undef, undef, undef, undef], defers := [] })
  (fun x a' _ X Y row hs hg hr => hs)
  ?assign ?body ?done ?stop
 case assign =>
  intro l pre x W K hI hK
  dsimp only [UK]
  gi_wp2
  exact hK _ _ (KeepsFrom.refl _ _) ⟨rfl, rfl⟩ hI rfl
 case body =>
  rintro l pre x a' W hl ⟨r, hr⟩ hI rfl hlt
  obtain ⟨u, bV, hO, hv⟩ := hI.out
  have hbel := hI.bel
  have XP := hI.par
  have hold := hI.old
  have hsW := hI.sz
  obtain ⟨av, cv, rfl, _, _⟩ := hO.form
  have hq : x % m < m := Nat.mod_lt _ hm0
  have hpn : (pre ++ [x]).map (GZ L m) = pre.map (GZ L m) ++ [GZ L m x] := by rw [List.map_append, List.map_singleton]
  obtain ⟨g, hg⟩ := nXe (x % m)
  have hvW := (Hv.out.ext (Ext.of_below (S := fun _ => False) hbel) (fun _ _ h => h))
  obtain ⟨x1, hx1⟩ := nXe (L.getD (2 * g) CQ)
  obtain ⟨x2, hx2⟩ := nXe (L.getD (2 * g + 1) CQ)
  have hxp : GZ L m x = CB x1 x2 := by rw [hx1, hx2, hg]; rfl
  rw [← hg] at hq
  obtain ⟨bb, oo, hbo, _, hc1⟩ := BU hF (by omega) hvW (by rw [hx1]; exact getD_at L (2 * g) (by rw [HL.out]; omega) : L[2 * g]? = some x1)
  cases hbo
  obtain ⟨bb, oo, hbo, _, hc2⟩ := BU hF (by omega) hvW (by rw [hx2]; exact getD_at L (2 * g + 1) (by rw [HL.out]; omega) : L[2 * g + 1]? = some x2)
  cases hbo
  have hA := fun w hv => OB w x1 x2 hv
  obtain ⟨C1, hC1⟩ := nXe (x1.A)
  obtain ⟨C2, hC2⟩ := nXe (x2.A)
  obtain ⟨x3, hx3⟩ := nXe (CB x1 x2)
  rw [← hx3] at hxp hA
  obtain ⟨C3, hC3⟩ := nXe (x3.A)
  rw [← hC1, ← hC2, ← hC3] at hA
  have HA := lh hA
  have Tu : ∀ (j : Nat) (u : Value), C1.toList[j]? = some u → W.cell? ⟨ab, ao + 2 * g * 32 + j, none⟩ = some u := by rw [hC1]; exact hc1
  have hcc2 : ∀ (j : Nat) (u : Value), C2.toList[j]? = some u → W.cell? ⟨ab, ao + 2 * g * 32 + 32 + j, none⟩ = some u := by rw [hC2]; intro j u hu; have := hc2 j u hu; rw [show ao + (2 * g + 1) * 32 + j = ao + 2 * g * 32 + 32 + j by omega] at this; exact this
  have dO := lh (show (Tryz.prog.info? 44).map (·.size) = some C1.size by rw [hC1]; exact x1.info)
  have dN := lh (show (Tryz.prog.info? 44).map (·.size) = some C2.size by rw [hC2]; exact x2.info)
  have aY : C3.size = 32 := by rw [hC3]; exact x3.size
  have dM := lh (show C3.toList = x3.cs by rw [hC3]; rfl)
  obtain ⟨k, hk⟩ := nXe ((pre.map (GZ L m)).length)
  have Yo : k ≤ 64 := by rw [hk, List.length_map]; omega
  obtain ⟨P0, hP0⟩ := nXe (pre.map (GZ L m))
  rw [← hk, ← hP0] at hO
  rw [← hP0, hxp] at hpn
  rw [← hk] at bV hv
  rw [← hP0] at hk
  obtain ⟨HPn, Hkk, HO, HBV, Hv2, QH, X5, bH⟩ := l8h hpn hk hO bV hv hbel hold XP
  have k0 : W.cell? ⟨w.heap.size + 2, 0, none⟩ = some (.slice av k cv) := by rw [AO bV]; rfl
  have k1 : W.cell? ⟨w.heap.size, 1, none⟩ = some (.func (.func 59) #[] #[]) := by rw [AO XP]; rfl
  rw [← hg]
  clear hO bV hv hbel hold XP hpn hk hP0 hA hC1 hC2 hC3 hx1 hx2 hx3 hxp hc1 hc2 hvW hI hI0 b3 b4 hB0 hg hr
  gi_wp2
  refine Dr (S := (fun W' => W'.cell? ⟨w.heap.size + 2, 0, none⟩ = some (.slice av k cv) ∧ W'.cell? ⟨w.heap.size, 1, none⟩ = some (.func (.func 59) #[] #[]) ∧ Below w.heap.size w W' ∧ Ow W' w.heap.size 44 32 (.slice av k cv) k (P0.flatMap H32.cs) ∧ (∀ (j : Nat) (u : Value), C1.toList[j]? = some u → W'.cell? ⟨ab, ao + 2 * g * 32 + j, none⟩ = some u) ∧ (∀ (j : Nat) (u : Value), C2.toList[j]? = some u → W'.cell? ⟨ab, ao + 2 * g * 32 + 32 + j, none⟩ = some u))) (K := [12, 14]) (by kernel_rfl) (by kernel_rfl) ?_ ?_
  ·rintro ⟨a, w, h⟩
   exact h
  have hS0 : W.drew.cell? ⟨w.heap.size + 2, 0, none⟩ = some (.slice av k cv) ∧ W.drew.cell? ⟨w.heap.size, 1, none⟩ = some (.func (.func 59) #[] #[]) ∧ Below w.heap.size w W.drew ∧ Ow W.drew w.heap.size 44 32 (.slice av k cv) k (P0.flatMap H32.cs) ∧ (∀ (j : Nat) (u : Value), C1.toList[j]? = some u → W.drew.cell? ⟨ab, ao + 2 * g * 32 + j, none⟩ = some u) ∧ (∀ (j : Nat) (u : Value), C2.toList[j]? = some u → W.drew.cell? ⟨ab, ao + 2 * g * 32 + 32 + j, none⟩ = some u) := ⟨k0, k1, Bl.drew QH.out, HO.out.ext (Ext.drew (Ext.refl _ _)) (fun _ _ h => h), Tu, hcc2⟩
  clear k0 k1 Tu hcc2
  refine Wr.tkE 0 ?_ ?_ hS0 ?_
  rotate_left
  ·intro wq _
   go_simp
   rfl
  simp only [sq]
  refine Wr.tkI 1 ?_ ?_ hS0 ?_
  rotate_left
  ·intro wq hSw
   obtain ⟨q0, q1, q2, q3, q4, q5⟩ := hSw
   go_simp
   rfl
  simp only [sq]
  refine Wr.tkE 2 ?_ ?_ hS0 ?_
  rotate_left
  ·intro wq _
   go_simp
   rfl
  simp only [sq]
  refine Wr.Bq [10, 11, 12, 14] (i := 3) (v := ?_) rfl (by kernel_rfl) (fun _ _ _ h => h) (Or.inl ⟨by rfl, ?_⟩) hS0 ?_
  rotate_left
  ·intro wq hSw
   obtain ⟨q0, q1, q2, q3, q4, q5⟩ := hSw
   go_simp
   rfl
  simp only [sq]
  refine Wr.tkE 4 ?_ ?_ hS0 ?_
  rotate_left
  ·intro wq _
   go_simp
   rfl
  simp only [sq]
  refine Wr.tkE 5 ?_ ?_ hS0 ?_
  rotate_left
  ·intro wq _
   go_simp
   rfl
  simp only [sq]
  refine Wr.Bq [10, 11, 12, 14] (i := 6) (v := .agg C1) rfl (by kernel_rfl) (fun _ _ _ h => h) (Or.inl ⟨by rfl, ?_⟩) hS0 ?_
  ·intro wq hSw
   obtain ⟨q0, q1, q2, q3, q4, q5⟩ := hSw
   exact Cr 44 _ rfl ab _ rfl C1 q4 underlying44 rfl dO.out
  simp only [sq]
  refine Wr.tkE 7 ?_ ?_ hS0 ?_
  rotate_left
  ·intro wq _
   go_simp
   rfl
  simp only [sq]
  refine Wr.tkE 8 ?_ ?_ hS0 ?_
  rotate_left
  ·intro wq _
   go_simp
   rfl
  simp only [sq]
  refine Wr.Bq [10, 11, 12, 14] (i := 9) (v := .agg C2) rfl (by kernel_rfl) (fun _ _ _ h => h) (Or.inl ⟨by rfl, ?_⟩) hS0 ?_
  ·intro wq hSw
   obtain ⟨q0, q1, q2, q3, q4, q5⟩ := hSw
   exact Cr 44 _ rfl ab _ rfl C2 q5 underlying44 rfl dN.out
  simp only [sq]
  refine Wr.Ab (i := 10) (by kernel_rfl) ?_
  refine BR rfl (by rfl) (by go_simp; first | rfl | exact ⟨⟨rfl, rfl⟩, rfl⟩ | exact ⟨rfl, rfl⟩) ?_
  refine (HA.out W.drew (HV.out.below hS0.2.2.1)).mono ?_
  rintro e w3 ⟨rfl, hb3⟩
  have OJ : Below W.heap.size W w3 := (Bl.drew (Below.refl _ W)).trans hb3
  have hS1 : w3.cell? ⟨w.heap.size + 2, 0, none⟩ = some (.slice av k cv) ∧ w3.cell? ⟨w.heap.size, 1, none⟩ = some (.func (.func 59) #[] #[]) ∧ Below w.heap.size w w3 ∧ Ow w3 w.heap.size 44 32 (.slice av k cv) k (P0.flatMap H32.cs) ∧ (∀ (j : Nat) (u : Value), C1.toList[j]? = some u → w3.cell? ⟨ab, ao + 2 * g * 32 + j, none⟩ = some u) ∧ (∀ (j : Nat) (u : Value), C2.toList[j]? = some u → w3.cell? ⟨ab, ao + 2 * g * 32 + 32 + j, none⟩ = some u) := ⟨AB hb3 hS0.1, AB hb3 hS0.2.1, hS0.2.2.1.trans (hb3.mono hS0.2.2.1.size), hS0.2.2.2.1.ext (Ext.ofB hb3) (fun _ _ h => h), fun j u hu => AB hb3 (hS0.2.2.2.2.1 j u hu), fun j u hu => AB hb3 (hS0.2.2.2.2.2 j u hu)⟩
  refine ⟨_, rfl, ?_, ?_⟩
  ·exact hS1
  simp only [sq]
  refine Wr.Ab (i := 11) (by kernel_rfl) ?_
  refine Ap rfl (by rfl) (v := .slice (some ⟨w3.heap.size, 0, none⟩) 1 1) (w' := w3.alloc (.cells C3 44)) (by go_simp; rw [Fy C3 aY]; first | done | rfl | exact ⟨rfl, rfl⟩) ?_
  have hb4 : Below w3.heap.size w3 (w3.alloc (.cells C3 44)) := bAx
  have hS2 : (w3.alloc (.cells C3 44)).cell? ⟨w.heap.size + 2, 0, none⟩ = some (.slice av k cv) ∧ (w3.alloc (.cells C3 44)).cell? ⟨w.heap.size, 1, none⟩ = some (.func (.func 59) #[] #[]) ∧ Below w.heap.size w (w3.alloc (.cells C3 44)) ∧ Ow (w3.alloc (.cells C3 44)) w.heap.size 44 32 (.slice av k cv) k (P0.flatMap H32.cs) ∧ (∀ (j : Nat) (u : Value), C1.toList[j]? = some u → (w3.alloc (.cells C3 44)).cell? ⟨ab, ao + 2 * g * 32 + j, none⟩ = some u) ∧ (∀ (j : Nat) (u : Value), C2.toList[j]? = some u → (w3.alloc (.cells C3 44)).cell? ⟨ab, ao + 2 * g * 32 + 32 + j, none⟩ = some u) := ⟨AB hb4 hS1.1, AB hb4 hS1.2.1, hS1.2.2.1.trans (hb4.mono hS1.2.2.1.size), hS1.2.2.2.1.ext (Ext.ofB hb4) (fun _ _ h => h), fun j u hu => AB hb4 (hS1.2.2.2.2.1 j u hu), fun j u hu => AB hb4 (hS1.2.2.2.2.2 j u hu)⟩
  refine ⟨hS2, ?_⟩
  have hsrc := EI (tx := 88) underlying88 hF w3 x3 C3 dM.out 44
  have NW : Below W.heap.size W (w3.alloc (.cells C3 44)) := OJ.trans (hb4.mono OJ.size)
  have Ye : (w3.alloc (.cells C3 44)).heap.size = w3.heap.size + 1 := by simp
  obtain ⟨w4, hw4⟩ := nXe (w3.alloc (.cells C3 44))
  rw [← hw4] at hS2 hsrc NW ⊢
  clear hw4 hb4 Ye hS1 hS0
  simp only [sq]
  refine Wr.BJ (i := 12) (by kernel_rfl) (by kernel_rfl) ?_
  refine Wr.Ci rfl (by rfl) _ _ _ _ rfl tyHs w.heap.size (.slice av k cv) k (P0.flatMap H32.cs) rfl hS2.2.2.2.1 (.slice (some ⟨w3.heap.size, 0, none⟩) 1 1) 1 x3.cs rfl hsrc (k + 1) rfl ((P0 ++ [x3]).flatMap H32.cs) (by rw [List.flatMap_append, List.flatMap_singleton]) (by unfold maxLen; omega) (by omega) hS2.2.2.1.size ?_
  intro a4 c4 w5 hown5 hgrow5 hat5
  simp only [sq]
  have hne : (Value.slice av k cv).ownBlock ≠ some (w.heap.size + 2) := fun h => by
   have := Hv2.out _ h
   omega
  have hB4 : w4.heap[w.heap.size + 2]? = some (.cells #[.slice av k cv, .func (.func 59) #[] #[]] 120 (0, 0)) := (NW.block _ (by omega)).trans HBV.out
  have hB5 : w5.heap[w.heap.size + 2]? = some (.cells #[.slice av k cv, .func (.func 59) #[] #[]] 120 (0, 0)) := (hgrow5.block _ (AJ hB4) (fun h => hne h.symm)).trans hB4
  obtain ⟨cx5, fx5⟩ := AA hB5
  refine Wr.FD (i := 13) (v := ?_) rfl (by kernel_rfl) (fun _ _ _ h => h) (Or.inl ⟨by rfl, ?_⟩) ?_
  rotate_left
  ·intro wq _
   go_simp
   rfl
  simp only [sq]
  refine Wr.BJ (i := 14) (by kernel_rfl) (by kernel_rfl) ?_
  refine BO rfl (by rfl) (w' := w5.setCell ⟨w.heap.size + 2, 0, none⟩ (.slice a4 (k + 1) c4)) (by go_simp; first | done | rfl) ?_
  simp only [sq]
  refine Wr.Ag (by kernel_rfl) ?_ _
  gi_wp2
  rw [hsz]
  refine R3 QH.out hsW HBV.out bH.out X5.out Hv2.out hS2.2.2.2.1 NW hgrow5 ?_ (by rw [HPn.out]; exact hown5) hat5
  rw [HPn.out, List.length_append, ← Hkk.out]
  rfl
 case done =>
  rintro D ys W hD rfl hI hK
  obtain ⟨u, bV, hO, hv⟩ := hI.out
  obtain ⟨av, cv, rfl, _, _⟩ := hO.form
  obtain ⟨k, hk⟩ := nXe (((List.range m).map (GZ L m)).length)
  rw [← hk] at bV hv
  have Hk := lh hk
  clear hk
  obtain ⟨c0, f0⟩ := AA bV
  obtain ⟨c1, f1⟩ := AA hI.old
  obtain ⟨HBV, HK, HO, HI, HX, Hv3⟩ := l6h bV hK hO hI hI.old hv
  clear hI hI0 b3 b4 hB0 hO bV hK hv
  gi_wp2
  obtain ⟨wf, hwf⟩ := nXe ((W.setCell ⟨w.heap.size + 1, 0, none⟩ (.slice av k cv)).setCell ⟨w.heap.size + 1, 1, none⟩ (.func (.func 59) #[] #[]))
  rw [← hwf]
  have hDs : w.heap.size + 5 ≤ D := by omega
  have h1 : wf.heap[w.heap.size + 1]? = some (.cells #[.slice av k cv, .func (.func 59) #[] #[]] 120 (0, 0)) := by rw [hwf]; exact heap_setCell_same (heap_setCell_same HX.out _) _
  have hD : wf.heap[D]? = some (.deferred (some [])) := by rw [hwf, AX _ (by omega), AX _ (by omega)]; exact HK.out
  have hb : Below w.heap.size w wf := by rw [hwf]; exact (HI.out.bel.setCell (p := ⟨w.heap.size + 1, 0, none⟩) (by simp) _).setCell (p := ⟨w.heap.size + 1, 1, none⟩) (by simp) _
  have ho : Ow wf w.heap.size 44 32 (.slice av k cv) k ((QJ L m).flatMap H32.cs) := by
   rw [hwf]
   rw [← Hk.out] at HO
   exact (HO.out.ext (Ext.set1 W (w.heap.size + 1) 0 _) (fun j hj e => by have := Hv3.out j hj; omega)).ext (Ext.set1 _ (w.heap.size + 1) 1 _) (fun j hj e => by have := Hv3.out j hj; omega)
  clear hwf
  refine ⟨by simp, .inl ⟨_, _, rfl, run_takeDeferred hD, ?_⟩⟩
  have hDo := hD
  have hp : (wf.putObj D (.deferred none)).heap[w.heap.size + 1]? = wf.heap[w.heap.size + 1]? := World.putObj_heap_other (by omega)
  have h2 := hp.trans h1
  obtain ⟨d0, g0⟩ := AA h2
  refine ⟨.agg #[.slice av k cv, .func (.func 59) #[] #[]], ?_, _, rfl, ?_, ?_⟩
  ·exact results_cell_row rfl _ _ (w.heap.size + 1) _ _ (0, 0) _ rfl h2 underlying120 rfl (by kernel_rfl)
  ·rw [show (QJ L m).length = k by rw [Hk.out]; rfl]
   exact Ew ho (grownBy_putObj' wf D _) (fun r e => by cases e; exact ⟨_, hDo, rfl⟩)
  ·exact hb.trans (belowK_b (w := w) nR wf D _ _ (by omega) hDo rfl rfl)
 case stop =>
  rintro D c pre W _ _ h _
  exact h.elim
end TreeE
namespace TreeF
open Go Go.RowKit Go.Shelf OctP OctG RowsX Lift ShaS KeyS ShaA ShaB Steps KeyA KeyE TreeA TreeC TreeD TreeE KeyG
theorem DU (L : List H32) (m : Nat) : (QJ L m).length = m := by simp [QJ]
theorem Vu (L : List H32) (m : Nat) (h : L.length = 2 * m) : (QJ L m).map H32.l = up (L.map H32.l) := by
 have hl : (L.map H32.l).length = 2 * m := by rw [List.length_map, h]
 have hu := GD m _ hl
 refine List.ext_getElem (by rw [List.length_map, DU, hu]) (fun i h1 h2 => ?_)
 have hi : i < m := by rw [List.length_map, DU] at h1; exact h1
 have hg := QN m _ i hl hi
 have h3 : (up (L.map H32.l)).getD i [] = (up (L.map H32.l))[i] := by rw [List.getD_eq_getElem?_getD, List.getElem?_eq_getElem h2]; rfl
 have hd : ∀ k, k < L.length → (L.map H32.l).getD k [] = (L.getD k CQ).l := fun k hk => by
  rw [List.getD_eq_getElem?_getD, List.getD_eq_getElem?_getD, List.getElem?_map, List.getElem?_eq_getElem hk]
  rfl
 rw [← h3, hg, hd _ (by omega), hd _ (by omega)]
 simp only [QJ, List.map_map, List.getElem_map, List.getElem_range, Function.comp, GZ, Nat.mod_eq_of_lt hi]
 rfl
def NR : Nat → List H32 → H32
 | 0, l => l.getD 0 CQ
 | h + 1, l => NR h (QJ l (2 ^ h))
theorem Q8 : ∀ (h : Nat) (L : List H32), L.length = 2 ^ h → (NR h L).l = root h (L.map H32.l)
 | 0, L, hL => by
   match L, hL with
   | [x], _ => rfl
 | h + 1, L, hL => by
   rw [Nat.pow_succ] at hL
   rw [NR, root, Q8 h _ (DU _ _), Vu L (2 ^ h) (by omega)]
theorem Ve (w : World) (v : Value) (L : List H32) (h : Nat) (hh : h ≤ 7) (hL : L.length = 2 ^ h) (hv : Sl w v 32 L.length (L.flatMap H32.cs)) (hk : Au w) :
 Calls Tryz.prog 33 #[v] w (RB (.tuple #[.agg (NR h L).A, .int .i64 0]) w) := by
 obtain ⟨a, cap, rfl, hcap, hm63⟩ := hv.form
 have hpos : 0 < L.length := by rw [hL]; exact Nat.pow_pos (by omega)
 obtain ⟨ab, ao, rfl, WH, _⟩ := BU hF (by omega) hv (getD_at L 0 hpos)
 obtain ⟨R, hR⟩ := nXe (NR h L)
 obtain ⟨C, hC⟩ := nXe (R.A)
 rw [← hR, ← hC]
 have HCS := lh (show (Tryz.prog.info? 44).map (·.size) = some C.size by rw [hC]; exact R.info)
 have HCN := lh (show C.size = 32 by rw [hC]; exact R.size)
 have HCO := lh (show C.all (·.oneCell') = true by rw [hC]; exact R.one)
 obtain ⟨HC, HR⟩ := l2h hC hR.symm
 have hfit := fun w => RV w h hh
 rw [← hL] at hfit
 obtain ⟨n, hn⟩ := nXe (L.length)
 rw [← hn] at hfit hv hL hpos hcap ⊢
 obtain ⟨Z, hZ⟩ := nXe (CQ.A)
 have HLIT : Hid (zq0 Z) := lh (by rw [hZ]; unfold zq0; kernel_rfl)
 have HZN : Hid (Z.size = 32) := lh (by rw [hZ]; kernel_rfl)
 obtain ⟨w0, hw0⟩ := nXe (w.alloc (.cells Z 44))
 have hsz0 : w0.heap.size = w.heap.size + 1 := by rw [hw0]; simp
 have hb0 : Below w.heap.size w w0 := by rw [hw0]; exact bAx
 have hx0 : w0.heap[w.heap.size]? = some (.cells Z 44 (0, 0)) := by rw [hw0]; exact AL _ _
 obtain ⟨Vi, Hv, HV, HL, Hn, HW0, HX0, HB0⟩ := l8h hfit hv hk hL hn hw0 hx0 hb0
 clear hfit hv hk hL hn hR hC hZ hw0 hx0 hb0 hcap hm63
 go_enter func33, ntmps33
 go_wp2_with fail
 rw [HLIT.out, ← HW0.out]
 go_wp2_with (go_at_call 58; refine (Vi.out _).mono ?_; rintro e w' ⟨rfl, rfl⟩)
 obtain ⟨w1, hw1⟩ := nXe (w0.alloc (.cells #[.slice (some ⟨ab, ao, none⟩) n cap, .func (.func 59) #[] #[]] 120))
 rw [← hw1]
 have Xc : Below w0.heap.size w0 w1 := by rw [hw1]; exact bAx
 have hb1 : Below w.heap.size w w1 := HB0.out.trans (Xc.mono HB0.out.size)
 have hx1 : w1.heap[w.heap.size + 1]? = some (.cells #[.slice (some ⟨ab, ao, none⟩) n cap, .func (.func 59) #[] #[]] 120 (0, 0)) := by rw [hw1, ← hsz0]; exact AL _ _
 have hz1 : w1.heap[w.heap.size]? = some (.cells Z 44 (0, 0)) := (Xc.block _ (AJ HX0.out)).trans HX0.out
 have hs1 := Hv.out.ext (Ext.of_below (S := fun _ => False) hb1) (fun _ _ h => h)
 rw [Hn.out] at hs1 hx1
 obtain ⟨HX1, HZ1, HS1, HB1⟩ := l4h hx1 hz1 hs1 hb1
 clear hw1 Xc hb1 hx1 hz1 hs1
 go_loopw [] (fun wr => ∃ (j : Nat) (l : List H32) (u : Value), j ≤ h ∧ l.length = 2 ^ j ∧ Hid (NR j l = R) ∧ wr.heap[w.heap.size + 1]? = some (.cells #[u, .func (.func 59) #[] #[]] 120 (0, 0)) ∧ wr.heap[w.heap.size]? = some (.cells Z 44 (0, 0)) ∧ Sl wr u 32 l.length (l.flatMap H32.cs) ∧ Below w.heap.size w wr)
  (fun wr => match wr.cell? ⟨w.heap.size + 1, 0, none⟩ with | some (.slice _ k _) => k | _ => 0)
 case atStart => exact ⟨h, L, _, Nat.le_refl _, by rw [← Hn.out]; exact HL.out, HR, HX1.out, HZ1.out, HS1.out, HB1.out⟩
 case round =>
  obtain ⟨j, l, u, hj, hl, hR, hx, hz, hs, hb⟩ := hrel
  clear HX1 HZ1 HS1 HB1
  obtain ⟨b, ag, rfl, hcap, hm63⟩ := hs.form
  obtain ⟨HX, HZ, HS, HB⟩ := l4h hx hz hs hb
  obtain ⟨cx0, fx0⟩ := AA HX.out
  clear hx hz hs hb
  rcases Nat.eq_zero_or_pos j with h0 | hjp
  ·skip
   subst h0
   have hl1 : l.length = 1 := hl
   have hs := HS.out
   have hx := HX.out
   obtain ⟨bb, bo, rfl, _, hcc⟩ := BU hF (by omega) hs (getD_at l 0 (by omega))
   have hRl : l.getD 0 CQ = R := hR.out
   rw [hRl] at hcc
   rw [hl1] at hx
   obtain ⟨cx, fx⟩ := AA hx
   have Hcc := lh (show ∀ (j : Nat) (u : Value), C.toList[j]? = some u → wr.cell? ⟨bb, bo + j, none⟩ = some u by rw [HC.out]; intro j u hu; have := hcc j u hu; rw [show bo + 0 * 32 + j = bo + j by omega] at this; exact this)
   clear hs hcc hx cx0 fx0
   go_wp2_with (first | (refine Ah rfl _ _ rfl bb bo rfl C Hcc.out underlying44 rfl HCS.out ?_) | (refine AC rfl _ _ _ rfl w.heap.size C rfl rfl _ _ HZ.out HCS.out (by rw [HZN.out, HCN.out]) HCO.out ?_) | fail)
   intro wf hwf
   go_wp2
   refine bodyPost_ret (v := .tuple #[.agg C, .int .i64 0]) (WireT.AU rfl _ _ w.heap.size 44 C (0, 0) _ rfl (by rw [hwf.out]; exact AR HZ.out) underlying44 rfl HCS.out rfl) rfl ⟨by first | rfl | rw [HC.out], by rw [hwf.out]; exact AQ HB.out (by omega) _⟩
  ·skip
   obtain ⟨k, rfl⟩ : ∃ k, j = k + 1 := ⟨j - 1, by omega⟩
   have hk6 : k ≤ 6 := by omega
   rw [Nat.pow_succ] at hl
   have hp : 2 ^ k ≤ 64 := Nat.le_trans (Nat.pow_le_pow_right (by omega) hk6) (by omega)
   have hp0 : 0 < 2 ^ k := Nat.pow_pos (by omega)
   have hR2 : Hid (NR k (QJ l (2 ^ k)) = R) := hR
   obtain ⟨m, hm⟩ := nXe (2 ^ k)
   rw [← hm] at hl hp hp0 hR2
   have hup := Vs wr _ l m (by omega) hp0 hp HS.out (HV.out.below HB.out)
   obtain ⟨c, hc⟩ := nXe (l.length)
   rw [← hc] at hup hl cx0
   have hgt : 1 < c := by omega
   have hd1 : decide (1 < c) = true := dT hgt
   obtain ⟨Hup, Hm, Hl, Hc⟩ := l4h hup hm hl hc
   clear hup hm hl hc
   go_wp2_with (go_at_call 60; refine Hup.out.mono ?_; rintro e w2 ⟨u2, rfl, hA⟩)
   have HA := lh hA
   have hsl2 := hA.sl
   obtain ⟨a2, c2, rfl, _, _⟩ := hsl2.form
   have hx2 := (hA.bel.block _ (AJ HX.out)).trans HX.out
   obtain ⟨cx2, fx2⟩ := AA hx2
   obtain ⟨HX2, HB2, HZ2⟩ := l3h hx2 (HB.out.trans (hA.bel.mono HB.out.size)) ((hA.bel.block _ (AJ HZ.out)).trans HZ.out)
   obtain ⟨k2, hk2⟩ := nXe ((QJ l m).length)
   rw [← hk2]
   have Hk2 := lh hk2
   clear hA hsl2 hx2 hk2 cx0 fx0
   go_wp2
   go_simp
   go_wp2
   go_roundw
   case rel =>
        refine ⟨k, QJ l m, .slice a2 k2 c2, by omega, by rw [DU, Hm.out], hR2, ?_, ?_, ?_, ?_⟩
        ·exact heap_setCell_same (heap_setCell_same HX2.out _) _
        ·rw [AX _ (by omega), AX _ (by omega)]; exact HZ2.out
        ·have ho := HA.out.own
         rw [← Hk2.out] at ho ⊢
         have hlt := ho.lt
         have hlX := AJ HX.out
         exact ((ho.ext (Ext.set1 _ (w.heap.size + 1) 0 _) (fun j hj e => by have := hlt j hj; omega)).ext (Ext.set1 _ (w.heap.size + 1) 1 _) (fun j hj e => by have := hlt j hj; omega)).sl
        ·exact (HB2.out.setCell (p := ⟨w.heap.size + 1, 0, none⟩) (by simp) _).setCell (p := ⟨w.heap.size + 1, 1, none⟩) (by simp) _
   case measure =>
        have e1 : ((w2.setCell ⟨w.heap.size + 1, 0, none⟩ (.slice a2 k2 c2)).setCell ⟨w.heap.size + 1, 1, none⟩ (.func (.func 59) #[] #[])).cell? ⟨w.heap.size + 1, 0, none⟩ = some (.slice a2 k2 c2) := by rw [AO (heap_setCell_same (heap_setCell_same HX2.out _) _)]; rfl
        have e2 : wr.cell? ⟨w.heap.size + 1, 0, none⟩ = some (.slice b l.length ag) := by rw [AO HX.out]; rfl
        rw [e1, e2]
        have h1 := Hk2.out
        have h2 := Hl.out
        have h3 := Hc.out
        rw [DU] at h1
        simp only
        omega
end TreeF
namespace SI
open Go Go.RowKit
def Held (T : Nat → Prop) (W W' : World) : Prop := ∀ k, T k → k < W.heap.size → W'.heap[k]? = W.heap[k]?
def More (T : Nat → Prop) (W W' : World) : Nat → Prop := fun k => T k ∨ (W.heap.size ≤ k ∧ k < W'.heap.size)
def SI {α : Type} (F : Fence) (n : Nat) (P : Program) (g : Nat) (lb : Array Value) (encs : α → Array Value) (G : List α → (Nat → Prop) → α → World → Prop) (n0 : Nat) (S : List α → Prop) (N : Nat) (w : World) : Prop :=
 ∀ (l : Nat) (J : List α → (Nat → Prop) → World → Prop) (W : World), Below w.heap.size w W →
   (∀ pre T W1 W2, J pre T W1 → Ext T W1 W2 → J pre (More T W1 W2) W2) →
   (∀ pre T x W1, J pre T W1 → G pre T x W1 → pre.length < N → YieldAt F (n - 1) P l (encs x) W1 fun e W' =>
    e = .returned (.bool true) ∧ J (pre ++ [x]) T W' ∧ Held T W1 W' ∧ Below n0 W1 W') →
   J [] (fun _ => False) W →
   CallsIn F n P g (#[.func (.yield l) #[] #[]] ++ lb) W fun e W' => (∃ v, e = .returned v) ∧ ∃ xs T, S xs ∧ J xs T W'
def YR {α : Type} (B n0 : Nat) (I : List α → (Nat → Prop) → World → Prop) (xs : List α) (T : Nat → Prop) (W : World) : Exit → Act → World → Prop
 | .normal, _, W' => KeepsFrom B W W' ∧ Held T W W' ∧ Below n0 W W' ∧ I xs T W'
 | _, _, _ => False
variable {F : Fence} {n : Nat} {P : Program}
theorem Ob {n0 : Nat} {W : World} {l : Nat} {o : Obj} (o' : Obj) (h : W.heap[l]? = some o) (hl : n0 ≤ l) : Below n0 W (W.putObj l o') :=
 (Below.refl n0 W).grown (grownBy_putObj' W l o') (by have := (Array.getElem?_eq_some_iff.1 h).1; omega) (fun k e => by cases e; omega)
theorem NH {α : Type} {g : Operand} {ps : Array Tmp} {assign body : Code} {Q : Exit → Act → World → Prop} {a : Act} {w : World}
 (hro : F.round = none) (h1 : 1 ≤ n) {gf : Nat} {lb : Array Value} (hg : a.eval g = .func (.func gf) #[] lb) (hFg : F.fn gf) (eg : ∀ args w, (callFunc gf args).run P w = .ok (.enter gf args) w)
 {encs : α → Array Value} {G : List α → (Nat → Prop) → α → World → Prop} {n0 : Nat} {S : List α → Prop} {N : Nat} {w0 : World} (hseq : SI F (n - 1) P gf lb encs G n0 S N w0)
 (hn0 : n0 ≤ w.heap.size) (hb0 : Below w0.heap.size w0 w) (hps : ∀ x, (encs x).size = ps.size)
 (I : List α → (Nat → Prop) → World → Prop) (hI1 : OwnFrom w.heap.size (fun (s : List α × (Nat → Prop)) W => I s.1 s.2 W))
 (hI2 : ∀ pre T W1 W2, I pre T W1 → Ext T W1 W2 → I pre (More T W1 W2) W2) (hG : ∀ pre T, OwnFrom w.heap.size (G pre T)) (h0 : I [] (fun _ => False) w) (a₁ : α → Act)
 (hassign : ∀ (l : Nat) (x : α) (W : World) (K : Act → World → Prop), K (a₁ x) W →
  assign.wpIn (F.inRound l) (n - 1 - 1) P (Exit.then K (fun _ _ _ => False)) { tmps := (ps.zip (encs x)).foldl (fun t (p, v) => t.setIfInBounds p v) a.tmps, defers := [] } W)
 (hbody : ∀ (l : Nat) (pre : List α) (T : Nat → Prop) (x : α) (W : World), I pre T W → G pre T x W → pre.length < N → body.wpIn (F.inRound l) (n - 1 - 1) P (YR w.heap.size n0 I (pre ++ [x]) T W) (a₁ x) W)
 (hdone : ∀ (D : Nat) (xs : List α) (T : Nat → Prop) (W : World), w.heap.size ≤ D → S xs → I xs T W → W.heap[D]? = some (.deferred (some [])) → Q .normal { a with defers := { target := .collected D, args := #[] } :: a.defers } W) :
 (Code.rangeFunc g ps assign body).wpIn F n P Q a w := by
 refine wpIn_rangeFunc ?_
 intro fn hfn
 rw [hro]
 obtain ⟨rec, hrec⟩ : ∃ rec : LoopState → Option Code → Loop, rec = fun st pe => { state := st, pending := pe, fn, tmps := a.tmps, params := ps, assign, body, defers := w.heap.size } := ⟨_, rfl⟩
 obtain ⟨W1, hW1⟩ := nXe ((w.alloc (.deferred (some []))).alloc (.loop (rec .ready none)))
 have hL1 : W1.heap[w.heap.size + 1]? = some (.loop (rec .ready none)) := by
  rw [hW1]
  have := World.alloc_heap_new (w.alloc (.deferred (some []))) (.loop (rec .ready none))
  rwa [World.size_alloc] at this
 have hK1 : W1.heap[w.heap.size]? = some (.deferred (some [])) := by
  rw [hW1]
  exact (Below.heap_alloc _ _ _ (by simp)).trans (World.alloc_heap_new w _)
 have hI : I [] (fun _ => False) W1 := by
  rw [hW1]
  exact hI1.alloc (s := ([], fun _ => False)) _ (hI1.alloc (s := ([], fun _ => False)) _ h0)
 have hb1 : Below w0.heap.size w0 W1 := by
  rw [hW1]
  exact hb0.trans ((((Below.refl _ w).alloc nR _).alloc (by simp) _).mono hb0.size)
 refine ⟨w.heap.size + 1, [{ target := .collected w.heap.size, args := #[] }], W1, { target := .fn (.func gf) lb, args := #[.func (.yield (w.heap.size + 1)) #[] #[]] }, W1, gf,
  #[.func (.yield (w.heap.size + 1)) #[] #[]] ++ lb, W1, ?_, ?_, ?_, ?_, fun _ => h1, ?_⟩
 ·rw [hW1, hrec]
  exact run_enterLoop_outer _ _ _ _ _
 ·simp only [resolve, hg]
  simp [go_sem]
 ·intro f' hf'
  simp [Target.leads] at hf'
  subst hf'
  exact hFg
 ·simp [invoke, go_sem, eg]
 ·refine (hseq (w.heap.size + 1)
   (fun pre T W => I pre T W ∧ ¬ T w.heap.size ∧ ¬ T (w.heap.size + 1) ∧ W.heap[w.heap.size + 1]? = some (.loop (rec .ready none)) ∧ W.heap[w.heap.size]? = some (.deferred (some [])))
   W1 hb1 ?_ ?_ ⟨hI, id, id, hL1, hK1⟩).mono ?_
  ·rintro pre T A B ⟨hi, hTD, hTl, hl, hk⟩ hE
   have hlt := (Array.getElem?_eq_some_iff.1 hl).1
   exact ⟨hI2 _ _ _ _ hi hE, fun h => h.elim hTD (fun h => by omega), fun h => h.elim hTl (fun h => by omega), (hE.block _ hlt hTl).trans hl, (hE.block _ (by omega) hTD).trans hk⟩
  ·rintro pre T x W ⟨hi, hTD, hTl, hl, hk⟩ hGx hlen
   have hlt := (Array.getElem?_eq_some_iff.1 hl).1
   have hy := run_yield (P := P) (args := encs x) hl (by rw [hrec]; exact hps x)
   rw [hrec] at hy
   refine ⟨fn, _, assign, body, hy, roundIn_of_wpIn hfn (hassign _ x W _ ?_)⟩
   clear hy
   refine ⟨_, run_beginRound hl (by rw [hrec]), ?_⟩
   have hl2 : (W.putObj (w.heap.size + 1) (.loop { rec .ready none with state := .busy })).heap[w.heap.size + 1]? = some (.loop { rec .ready none with state := .busy }) := World.putObj_heap_same hlt
   have hk2 : (W.putObj (w.heap.size + 1) (.loop { rec .ready none with state := .busy })).heap[w.heap.size]? = some (.deferred (some [])) := (World.putObj_heap_other (by omega)).trans hk
   have hB2 : Below n0 W (W.putObj (w.heap.size + 1) (.loop { rec .ready none with state := .busy })) := Ob _ hl (by omega)
   have hH2 : ∀ k, T k → (W.putObj (w.heap.size + 1) (.loop { rec .ready none with state := .busy })).heap[k]? = W.heap[k]? := fun k hT => World.putObj_heap_other (fun e => hTl (by rw [← e]; exact hT))
   have hz2 : (W.putObj (w.heap.size + 1) (.loop { rec .ready none with state := .busy })).heap.size = W.heap.size := by simp
   refine wpIn_mono (hbody _ pre T x _ (hI1.putObj (s := (pre, T)) _ hi (by omega) hl rfl) ((hG pre T).putObj _ hGx (by omega) hl rfl) hlen) ?_
   generalize hW2 : W.putObj (w.heap.size + 1) (.loop { rec .ready none with state := .busy }) = W2 at hl2 hk2 hB2 hH2 hz2 ⊢
   rintro e a3 W3 hp
   cases e with
   | normal =>
     obtain ⟨hk3, hh3, hb3, hi3⟩ := hp
     have hl3 := hk3.same _ _ (by omega) hl2 rfl
     have hd3 := hk3.same _ _ nR hk2 rfl
     have hr := run_endRound (P := P) none hl3
     rw [hrec] at hr hl3
     refine ⟨_, _, hr, rfl, ⟨hI1.putObj (s := (pre ++ [x], T)) _ hi3 (by omega) hl3 rfl, hTD, hTl, ?_, ?_⟩, ?_, ?_⟩
     ·rw [hrec]
      exact World.putObj_heap_same (Array.getElem?_eq_some_iff.1 hl3).1
     ·exact (World.putObj_heap_other (by omega)).trans hd3
     ·intro k hT hk
      rw [World.putObj_heap_other (fun e => hTl (by rw [← e]; exact hT)), hh3 k hT (by omega), hH2 k hT]
     ·exact hB2.trans (hb3.trans (Ob _ hl3 (by omega)))
   | ret => exact hp.elim
   | exit id => exact hp.elim
   | goto t => exact hp.elim
   | panic ch => exact hp.elim
   | outgrown => exact hp.elim
  ·rintro e W2 ⟨⟨v, rfl⟩, xs, T, hS, hi, hTD, hTl, hl, hk⟩
   exact ⟨none, _, by have := run_endLoop (P := P) hl (by rw [hrec]; simp); rw [hrec] at this; exact this, hdone _ xs T _ nR hS (hI1.putObj (s := (xs, T)) _ hi (by omega) hl rfl) ((World.putObj_heap_other (by omega)).trans hk)⟩
end SI
namespace TreeG
open Go Go.RowKit Go.Shelf OctP OctG RowsX Lift ShaS KeyS ShaA ShaB Steps KeyA KeyE KeyG TreeA TreeC TreeD TreeE TreeF SI
attribute [local go_sem] Oper.semAt_some
def NT (h : Nat) (L : List H32) : Nat → List H32
 | 0 => L
 | k + 1 => QJ (NT h L k) (2 ^ (h - k - 1))
theorem Gi (h : Nat) (L : List H32) (hL : L.length = 2 ^ h) : ∀ k, (NT h L k).length = 2 ^ (h - k)
 | 0 => hL
 | k + 1 => by rw [NT, DU, Nat.sub_sub]
theorem OX (h : Nat) (L : List H32) : ∀ k, NT (h + 1) L (k + 1) = NT h (QJ L (2 ^ h)) k
 | 0 => rfl
 | k + 1 => by
   rw [NT, OX h L k, NT, show h + 1 - (k + 1) - 1 = h - k - 1 by omega]
def EZ (h : Nat) (L : List H32) (i : Nat) : List H32 := (List.range h).map fun k => (NT h L k).getD (Re (i / 2 ^ k)) CQ
theorem getD_map (L : List H32) (j : Nat) (h : j < L.length) : (L.map H32.l).getD j [] = (L.getD j CQ).l := by
 rw [List.getD_eq_getElem?_getD, List.getD_eq_getElem?_getD, List.getElem?_map, List.getElem?_eq_getElem h]
 rfl
theorem TD {i n : Nat} (h : i < 2 * n) : Re i < 2 * n := by unfold Re; split <;> omega
theorem RF : ∀ (h : Nat) (L : List H32) (i : Nat), L.length = 2 ^ h → i < 2 ^ h → (EZ h L i).map H32.l = path h (L.map H32.l) i
 | 0, _, _, _, _ => rfl
 | h + 1, L, i, hL, hi => by
   rw [Nat.pow_succ] at hL hi
   have ih := RF h (QJ L (2 ^ h)) (i / 2) (DU _ _) (by omega)
   rw [path, ← Vu L (2 ^ h) (by omega), ← ih, getD_map L _ (by rw [hL, Nat.mul_comm]; exact TD (by omega))]
   unfold EZ
   rw [List.range_succ_eq_map, List.map_cons, List.map_cons, List.map_map, List.map_map, List.map_map]
   have e0 : ((NT (h + 1) L 0).getD (Re (i / 2 ^ 0)) CQ).l = (L.getD (Re i) CQ).l := by simp [NT]
   rw [e0]
   refine congrArg (List.cons _) (List.map_congr_left fun k _ => ?_)
   simp only [Function.comp]
   rw [Nat.succ_eq_add_one, OX, Nat.pow_succ, Nat.mul_comm, ← Nat.div_div_eq_div_mul]
theorem FK (h : Nat) (L : List H32) (i : Nat) : (EZ h L i).length = h := by simp [EZ]
structure Lev (n0 h : Nat) (L : List H32) (pre : List Value) (T : Nat → Prop) (u : Value) (W : World) : Prop where
 lt : pre.length < h
 sl : Sl W u 32 (NT h L pre.length).length ((NT h L pre.length).flatMap H32.cs)
 own : ∀ k, u.ownBlock = some k → (k < n0 ∨ T k)
def Xq (u : Value) : Array Value := #[u]
theorem TC {W : World} {u : Value} {size n : Nat} {cs : List Value} (h : Sl W u size n cs) (hn : 0 < cs.length) : ∀ k o, u.ownBlock = some k → W.heap[k]? = some o → o.isCells = true := by
 intro k o hk ho
 obtain ⟨a, c, rfl, _, _⟩ := h.form
 obtain ⟨b, off, rfl, _, hc⟩ := h.plain hn
 have hb : b = k := by simpa [Value.ownBlock] using hk
 subst hb
 have h0 := hc 0 cs[0] (by simp [hn])
 unfold World.cell? at h0
 simp only [ho] at h0
 cases o <;> simp_all [Obj.isCells]
theorem Lev.kept {n0 h : Nat} {L : List H32} (hL : L.length = 2 ^ h) {pre : List Value} {T : Nat → Prop} (B : Nat) : OwnFrom B (Lev n0 h L pre T) := by
 intro u W W' row hs hg hr
 have hpos : 0 < ((NT h L pre.length).flatMap H32.cs).length := by
  rw [hF.total, Gi h L hL]
  exact Nat.mul_pos (Nat.pow_pos (by omega)) (by omega)
 refine ⟨hs.lt, hs.sl.keep (fun k hk hlt => hg.block k hlt (fun e => ?_)), hs.own⟩
 obtain ⟨_, o, ho, hc⟩ := hr k e.symm
 rw [TC hs.sl hpos k o hk ho] at hc
 cases hc
theorem Ry (w : World) (v : Value) :
 Calls Tryz.prog 91 #[.agg #[v, .func (.func 59) #[] #[]]] w fun e w' => e = .returned (.func (.func 110) #[] #[.pointer (some ⟨w.heap.size, 0, none⟩)]) ∧ w.alloc (.cells #[v, .func (.func 59) #[] #[]] 120) = w' := by
 go_enter func91, ntmps91
 go_wp2
 go_ret
 exact ⟨rfl, rfl⟩
theorem FP (d : Nat) (hd : 1 ≤ d) (l B : Nat) (wb : World) (L : List H32) (h : Nat) (hh : h ≤ 7) (hL : L.length = 2 ^ h) (hV : Au wb) (v : Value) (hvb : ∀ k, v.ownBlock = some k → k < wb.heap.size)
 (J : List Value → (Nat → Prop) → World → Prop) (hJ : ∀ pre T W1 W2, J pre T W1 → Ext T W1 W2 → J pre (More T W1 W2) W2)
 (hY : ∀ pre T x W, J pre T W → Lev wb.heap.size h L pre T x W → pre.length < h → YieldAt Fence.wide (d - 1) Tryz.prog l (Xq x) W fun e W' =>
  e = .returned (.bool true) ∧ J (pre ++ [x]) T W' ∧ Held T W W' ∧ Below wb.heap.size W W')
 (W : World) (hW : Below wb.heap.size wb W) (hB : W.heap[B]? = some (.cells #[v, .func (.func 59) #[] #[]] 120 (0, 0))) (hv : Sl W v 32 L.length (L.flatMap H32.cs)) (h0 : J [] (fun _ => False) W) :
 CallsIn Fence.wide d Tryz.prog 110 #[.func (.yield l) #[] #[], .pointer (some ⟨B, 0, none⟩)] W fun e W' => (∃ v, e = .returned v) ∧ ∃ xs T, xs.length = h ∧ J xs T W' := by
 obtain ⟨av, cap, rfl, hcap, hm63⟩ := hv.form
 obtain ⟨HL, HV, HVB, HJ, HY, HW, HB, Hv, H0⟩ := l9h hL hV hvb hJ hY hW hB hv h0
 clear hV hvb hJ hY hW hv h0 hL hcap hm63
 obtain ⟨n, hn⟩ := nXe (L.length)
 rw [← hn] at HB hB HVB Hv
 have Hn := lh hn
 clear hn
 refine callsIn_of_wp func110 rfl trivial ?_ rfl
 simp only [ntmps110, List.size_toArray, List.length_cons, List.length_nil, Nat.reduceAdd, Nat.reduceSub, Array.replicate_succ, Array.replicate_zero, List.push_toArray, List.append_toArray, List.nil_append, List.cons_append]
 obtain ⟨cB, fB⟩ := AA hB
 have lB := AJ hB
 clear hB
 gi_wp2
 obtain ⟨w1, hw1⟩ := nXe (W.alloc (.cells #[.slice av n cap, .func (.func 59) #[] #[]] 120))
 rw [← hw1]
 have hb1 : Below W.heap.size W w1 := by rw [hw1]; exact bAx
 have hx1 : w1.heap[W.heap.size]? = some (.cells #[.slice av n cap, .func (.func 59) #[] #[]] 120 (0, 0)) := by rw [hw1]; exact AL _ _
 have hz1 : w1.heap.size = W.heap.size + 1 := by rw [hw1]; simp
 obtain ⟨HJ1, HX1, HS1⟩ := l3h (HJ.out _ _ _ w1 H0.out (Ext.of_below hb1)) hx1 (Hv.out.below hb1)
 have HB1 := tbB HW hb1
 clear hw1 hb1 hx1 cB fB
 gi_loopw [3] (fun q wr => ∃ (b k : Nat) (u : Value) (pre : List Value) (T : Nat → Prop), q = .pointer (some ⟨b, 0, none⟩) ∧ pre.length = k ∧ k ≤ h ∧ wr.heap[b]? = some (.cells #[u, .func (.func 59) #[] #[]] 120 (0, 0)) ∧ T b ∧ Sl wr u 32 (NT h L k).length ((NT h L k).flatMap H32.cs) ∧ (∀ j, u.ownBlock = some j → j < wb.heap.size ∨ T j) ∧ Below wb.heap.size wb wr ∧ J pre T wr)
  (fun q wr => match q with | .pointer (some a) => (match wr.cell? a with | some (.slice _ m _) => m | _ => 0) | _ => 0)
 case atStart => exact ⟨W.heap.size, 0, _, [], _, rfl, rfl, by omega, HX1.out, .inr ⟨Nat.le_refl _, by omega⟩, by have := HS1.out; rw [Hn.out] at this ⊢; exact this, fun j hj => .inl (HVB.out j hj), HB1.out, HJ1.out⟩
 case round =>
  obtain ⟨b, k, u, pre, T, rfl, hpk, hk, hx, hTb, hs, hu, hb, hJ⟩ := hrel
  clear HX1 HS1 HB1 HJ1
  have hlen := Gi h L HL.out k
  obtain ⟨a, PK, rfl, _, _⟩ := hs.form
  obtain ⟨m, hm⟩ := nXe ((NT h L k).length)
  rw [← hm] at hx hs hu hlen
  obtain ⟨cx, fx⟩ := AA hx
  have hbl := AJ hx
  obtain ⟨Hx, Hs, Hu, Hb, HJr, Hm, Hlen, HT⟩ := l8h hx hs hu hb hJ hm hlen hTb
  clear hx hs hu hb hJ hm hTb
  by_cases hlt : k < h
  ·obtain ⟨g, hg⟩ : ∃ g, h - k = g + 1 := ⟨h - k - 1, by omega⟩
   rw [hg, Nat.pow_succ] at hlen
   have hp0 : 0 < 2 ^ g := Nat.pow_pos (by omega)
   have Ym : 2 ^ g ≤ 64 := Nat.le_trans (Nat.pow_le_pow_right (by omega) (by omega : g ≤ 6)) (by omega)
   have hgg : h - k - 1 = g := by omega
   obtain ⟨G2, hG2⟩ := nXe (2 ^ g)
   rw [← hG2] at hlen hp0 Ym
   obtain ⟨HG2, Hl2⟩ := l2h hG2 hlen
   have hgt : 1 < m := by omega
   have hd1 : decide (1 < m) = true := dT hgt
   have hd2 : decide ((1 : Int) < (m : Int)) = true := dT (by omega)
   obtain ⟨fn, tmps, assign, body, hy, hR⟩ := HY.out pre T (.slice a m PK) wr HJr.out ⟨by omega, by rw [hpk, ← Hm.out]; exact Hs.out, Hu.out⟩ (by omega)
   have hy2 : (Instr.yield l #[.slice a m PK]).run Tryz.prog wr = .ok (.round l fn tmps assign body) wr := hy
   have HR := lh hR
   clear hR hy hG2 hlen
   gi_wp2
   refine HR.out.mono ?_
   rintro e W5 ⟨rfl, hJ5, hH5, hB5⟩
   have hx5 := (hH5 b HT.out hbl).trans Hx.out
   have hs5 : Sl W5 (.slice a m PK) 32 m ((NT h L k).flatMap H32.cs) := Hs.out.keep (fun j hj hlt => (Hu.out j hj).elim (fun h1 => hB5.block j h1) (fun h1 => hH5 j h1 hlt))
   obtain ⟨c5, f5⟩ := AA hx5
   obtain ⟨Hb5, HJ5, Hs5⟩ := l3h (Hb.out.trans hB5) hJ5 hs5
   clear hJ5 hH5 hB5 hx5 hs5 cx fx hy2
   gi_wp2_with fail
   obtain ⟨w6, hw6⟩ := nXe (W5.alloc (.cells #[.slice a m PK, .func (.func 59) #[] #[]] 120))
   rw [← hw6]
   have hb6 : Below W5.heap.size W5 w6 := by rw [hw6]; exact bAx
   have hx6 : w6.heap[W5.heap.size]? = some (.cells #[.slice a m PK, .func (.func 59) #[] #[]] 120 (0, 0)) := by rw [hw6]; exact AL _ _
   have hup := Vs w6 (.slice a m PK) (NT h L k) G2 (by rw [← Hm.out]; have := Hl2.out; omega) hp0 Ym (by rw [← Hm.out]; exact Hs5.out.below hb6) (HV.out.below (Hb5.out.trans (hb6.mono Hb5.out.size)))
   have hlv : NT h L (k + 1) = QJ (NT h L k) G2 := by rw [NT, hgg, ← HG2.out]
   clear hw6 c5 f5
   refine ⟨trivial, ?_⟩
   refine (callsIn_wide.2 hup).mono ?_
   clear hup
   rintro e w7 ⟨u2, rfl, hA⟩
   obtain ⟨U, hU⟩ := nXe (QJ (NT h L k) G2)
   rw [← hU] at hA hlv
   have hUl : U.length = G2 := by rw [hU, DU]
   have hsl := hA.sl
   obtain ⟨a2, c2, rfl, _, _⟩ := hsl.form
   have hx7 := (hA.bel.block _ (AJ hx6)).trans hx6
   obtain ⟨cx7, fx7⟩ := AA hx7
   obtain ⟨HX7, HA, Zz, HX6⟩ := l4h hx7 hA (hb6.trans (hA.bel.mono hb6.size)) hx6
   have hl7 := AJ hx7
   have hl6 := AJ hx6
   obtain ⟨k2, hk2⟩ := nXe (U.length)
   rw [← hk2] at HA hUl ⊢
   obtain ⟨Hk2, HUl⟩ := l2h hk2 hUl
   clear hA hsl hx7 hx6 hb6 hk2 hU hUl
   gi_wp2
   go_roundw
   case rel =>
        obtain ⟨wf, hwf⟩ := nXe ((w7.setCell ⟨W5.heap.size, 0, none⟩ (.slice a2 k2 c2)).setCell ⟨W5.heap.size, 1, none⟩ (.func (.func 59) #[] #[]))
        rw [← hwf]
        have hE : Ext T W5 wf := by
         rw [hwf]
         exact ((Ext.of_below Zz.out).setCell (p := ⟨W5.heap.size, 0, none⟩) (.inr nR) _).setCell (p := ⟨W5.heap.size, 1, none⟩) (.inr nR) _
        have hlt := HA.out.own.lt
        have hzf : wf.heap.size = w7.heap.size := by rw [hwf]; simp [World.setCell]
        have hof := (HA.out.own.ext (Ext.set1 w7 W5.heap.size 0 (.slice a2 k2 c2)) (fun j hj e => by have := (hlt j hj).1; omega)).ext (Ext.set1 _ W5.heap.size 1 (.func (.func 59) #[] #[])) (fun j hj e => by have := (hlt j hj).1; omega)
        rw [← hwf] at hof
        refine ⟨W5.heap.size, k + 1, .slice a2 k2 c2, pre ++ [.slice a m PK], More T W5 wf, rfl, by simp [hpk], by omega, ?_, .inr ⟨Nat.le_refl _, by omega⟩, ?_, ?_, ?_, HJ.out _ _ _ _ HJ5.out hE⟩
        ·rw [hwf]
         exact heap_setCell_same (heap_setCell_same HX7.out _) _
        ·rw [hlv]
         have := hof.sl
         rw [← Hk2.out] at this ⊢
         exact this
        ·intro j hj
         have := hlt j hj
         exact .inr (.inr ⟨by omega, by omega⟩)
        ·rw [hwf]
         have := Hb5.out.size
         exact ((Hb5.out.trans (Zz.out.mono this)).setCell (p := ⟨W5.heap.size, 0, none⟩) (by simpa using this) _).setCell (p := ⟨W5.heap.size, 1, none⟩) (by simpa using this) _
   case measure =>
        have e1 : ((w7.setCell ⟨W5.heap.size, 0, none⟩ (.slice a2 k2 c2)).setCell ⟨W5.heap.size, 1, none⟩ (.func (.func 59) #[] #[])).cell? ⟨W5.heap.size, 0, none⟩ = some (.slice a2 k2 c2) := by
         rw [AO (heap_setCell_same (heap_setCell_same HX7.out _) _)]
         rfl
        have e2 : wr.cell? ⟨b, 0, none⟩ = some (.slice a m PK) := by
         rw [AO Hx.out]
         rfl
        have h1 := HUl.out
        have h2 := Hl2.out
        dsimp only
        rw [e1, e2]
        dsimp only
        omega
  ·skip
   obtain rfl : k = h := by omega
   obtain rfl : m = 1 := by rw [hlen, Nat.sub_self]
   clear hlen
   gi_wp2
   go_end0
   exact ⟨⟨_, rfl⟩, _, _, hpk, HJr.out⟩
theorem Uo (d : Nat) (hd : 1 ≤ d) (B : Nat) (wb : World) (L : List H32) (h : Nat) (hh : h ≤ 7) (hL : L.length = 2 ^ h) (hV : Au wb) (v : Value) (hvb : ∀ k, v.ownBlock = some k → k < wb.heap.size)
 (w : World) (hw : Below wb.heap.size wb w) (hB : w.heap[B]? = some (.cells #[v, .func (.func 59) #[] #[]] 120 (0, 0))) (hv : Sl w v 32 L.length (L.flatMap H32.cs)) :
 SI Fence.wide d Tryz.prog 110 #[.pointer (some ⟨B, 0, none⟩)] Xq (Lev wb.heap.size h L) wb.heap.size (fun xs => xs.length = h) h w := fun l J W hW hJ hY h0 =>
 FP d hd l B wb L h hh hL hV v hvb J hJ hY W (hw.trans (hW.mono hw.size)) ((hW.block B (AJ hB)).trans hB) (hv.below hW) h0
end TreeG
namespace TreeH
open Go Go.RowKit Go.Shelf OctP OctG RowsX Lift ShaS KeyS ShaA ShaB Steps KeyA KeyE KeyG TreeA TreeC TreeD TreeE TreeF SI TreeG
attribute [local go_sem] Oper.semAt_some
attribute [-go_sem] Builtin.append_
structure InvP (w : World) (i h : Nat) (L : List H32) (pre : List Value) (T : Nat → Prop) (W : World) : Prop where
 ib : W.heap[w.heap.size]? = some (.cells #[.int .i64 ((i / 2 ^ pre.length : Nat) : Int)] 3 (0, 0))
 out : ∃ u, W.heap[w.heap.size + 1]? = some (.cells #[u] 88 (0, 0)) ∧ Ow W w.heap.size 44 32 u pre.length (((EZ h L i).take pre.length).flatMap H32.cs) ∧ ∀ k, u.ownBlock = some k → w.heap.size + 3 ≤ k ∧ ¬ T k
 bel : Below w.heap.size w W
 sz : w.heap.size + 3 ≤ W.heap.size
 tk : ∀ k, T k → w.heap.size + 3 ≤ k ∧ k < W.heap.size
theorem InvP.kept {w : World} {i h : Nat} {L : List H32} : OwnFrom (w.heap.size + 3) (fun (s : List Value × (Nat → Prop)) W => InvP w i h L s.1 s.2 W) := by
 rintro ⟨pre, T⟩ X Y row hI hg hr
 have hr' := fun r e => (hr r e).2
 obtain ⟨v, h1, h2, h3⟩ := hI.out
 have hs := hI.sz
 have hz := hg.size
 refine ⟨?_, ⟨v, ?_, Ew h2 hg hr', h3⟩, Gn hI.bel (by omega) hg hr (by omega), by omega, fun k hk => ⟨(hI.tk k hk).1, by have := (hI.tk k hk).2; omega⟩⟩
 ·exact (hg.block _ (by omega) (fun e => by have := (hr _ e.symm).1; omega)).trans hI.ib
 ·exact (hg.block _ (by omega) (fun e => by have := (hr _ e.symm).1; omega)).trans h1
theorem InvP.more {w : World} {i h : Nat} {L : List H32} : ∀ (pre : List Value) (T : Nat → Prop) (X Y : World), InvP w i h L pre T X → Ext T X Y → InvP w i h L pre (More T X Y) Y := by
 intro pre T X Y hI hE
 obtain ⟨v, h1, h2, h3⟩ := hI.out
 have hs := hI.sz
 have hz := hE.size
 refine ⟨hE.Ai hI.ib (fun h => by have := (hI.tk _ h).1; omega), ⟨v, hE.Ai h1 (fun h => by have := (hI.tk _ h).1; omega), h2.ext hE (fun k hk => (h3 k hk).2), fun k hk => ⟨(h3 k hk).1, fun hT => ?_⟩⟩, Bl.ext hI.bel hE (fun k hk hT => by have := (hI.tk _ hT).1; omega), by omega, fun k hk => ?_⟩
 ·rcases hT with hT | hT
  ·exact (h3 k hk).2 hT
  ·have := (h2.lt k hk).2
   omega
 ·rcases hk with hk | hk
  ·exact ⟨(hI.tk k hk).1, by have := (hI.tk k hk).2; omega⟩
  ·exact ⟨by omega, hk.2⟩
theorem R5 {w W w4 w5 : World} {i h m2 : Nat} {L : List H32} {pre : List Value} {T : Nat → Prop} {x v v4 : Value} {n : Nat} {xs : List Value} (hI : InvP w i h L pre T W) (hb4 : Below W.heap.size W w4)
 (hO : Ow w4 w.heap.size 44 32 v n xs) (hv : ∀ k, v.ownBlock = some k → w.heap.size + 3 ≤ k ∧ ¬ T k) (hg : w4.grownBy w5 v.ownBlock) (hO4 : Ow w5 w.heap.size 44 32 v4 (pre ++ [x]).length (((EZ h L i).take (pre ++ [x]).length).flatMap H32.cs))
 (hat : v4.ownBlock = v.ownBlock ∨ v4.ownBlock = some w4.heap.size) (hm : m2 = i / 2 ^ (pre ++ [x]).length) :
 KeepsFrom (w.heap.size + 3) W ((w5.setCell ⟨w.heap.size + 1, 0, none⟩ v4).setCell ⟨w.heap.size, 0, none⟩ (.int .i64 (m2 : Int))) ∧ Held T W ((w5.setCell ⟨w.heap.size + 1, 0, none⟩ v4).setCell ⟨w.heap.size, 0, none⟩ (.int .i64 (m2 : Int))) ∧
  Below w.heap.size W ((w5.setCell ⟨w.heap.size + 1, 0, none⟩ v4).setCell ⟨w.heap.size, 0, none⟩ (.int .i64 (m2 : Int))) ∧ InvP w i h L (pre ++ [x]) T ((w5.setCell ⟨w.heap.size + 1, 0, none⟩ v4).setCell ⟨w.heap.size, 0, none⟩ (.int .i64 (m2 : Int))) := by
 have hs := hI.sz
 have hs4 := hb4.size
 have hs5 := hg.size
 obtain ⟨v0, h1, h2, h3⟩ := hI.out
 have hne : ∀ k, (k < w.heap.size + 3 ∨ T k) → some k ≠ v.ownBlock := fun k hk e => by
  have := hv k e.symm
  rcases hk with hk | hk
  ·omega
  ·exact this.2 hk
 have hkeep : ∀ k, k < W.heap.size → (k < w.heap.size + 3 ∨ T k) → w5.heap[k]? = W.heap[k]? := fun k h1 h2 => by
  rw [hg.block k (by omega) (hne k h2)]
  exact hb4.block k (by omega)
 have hv4 : ∀ k, v4.ownBlock = some k → w.heap.size + 3 ≤ k ∧ ¬ T k := fun k e => by
  rcases hat with h | h
  ·exact hv k (h ▸ e)
  ·rw [h] at e
   cases e
   exact ⟨by omega, fun hT => by have := (hI.tk _ hT).2; omega⟩
 have hbE : Below w.heap.size W ((w5.setCell ⟨w.heap.size + 1, 0, none⟩ v4).setCell ⟨w.heap.size, 0, none⟩ (.int .i64 (m2 : Int))) :=
  (((hb4.mono (by omega)).grown hg (by omega) (fun k hk => by have := hv k hk; omega)).setCell (p := ⟨w.heap.size + 1, 0, none⟩) (by simp) _).setCell (p := ⟨w.heap.size, 0, none⟩) (by simp) _
 refine ⟨KeepsOthers.from ((((DK hb4).trans (KeepsOthers.of_grownBy hg (GJ hO))).trans (KeepsOthers.setCell _ _ _)).trans (KeepsOthers.setCell _ _ _)) _, ?_, hbE, ⟨?_, ⟨v4, ?_, ?_, hv4⟩, hI.bel.trans hbE, ?_, fun k hk => ⟨(hI.tk k hk).1, ?_⟩⟩⟩
 ·intro k hT hk
  have := (hI.tk k hT).1
  rw [AX _ (by omega), AX _ (by omega)]
  exact hkeep k hk (.inr hT)
 ·rw [← hm]
  have h0 : (w5.setCell ⟨w.heap.size + 1, 0, none⟩ v4).heap[w.heap.size]? = some (.cells #[.int .i64 ((i / 2 ^ pre.length : Nat) : Int)] 3 (0, 0)) := by
   rw [AX _ (by omega), hkeep _ (by omega) (.inl (by omega))]
   exact hI.ib
  exact heap_setCell_same h0 _
 ·rw [AX _ (by omega)]
  exact heap_setCell_same ((hkeep _ (by omega) (.inl (by omega))).trans h1) v4
 ·exact (hO4.ext (Ext.set1 w5 (w.heap.size + 1) 0 v4) (fun k hk e => by have := hv4 k hk; omega)).ext (Ext.set1 _ w.heap.size 0 _) (fun k hk e => by have := hv4 k hk; omega)
 ·simp [World.setCell]
  omega
 ·have := (hI.tk k hk).2
  simp [World.setCell]
  omega
theorem aJ : ∀ a : Fin 256, bits .xor .i64 (a.val : Int) 1 = ((Re a.val : Nat) : Int) := by decide +kernel
theorem YH (n : Nat) (h : n < 256) : bits .xor .i64 (n : Int) 1 = ((Re n : Nat) : Int) := aJ ⟨n, h⟩
theorem Rs {h : Nat} {L : List H32} {i k : Nat} (hk : k < h) : (EZ h L i).take (k + 1) = (EZ h L i).take k ++ [(NT h L k).getD (Re (i / 2 ^ k)) CQ] := by
 have hl : k < (EZ h L i).length := by rw [FK]; exact hk
 rw [List.take_succ_eq_append_getElem hl]
 simp [EZ]
theorem Vf (w : World) (v : Value) (L : List H32) (h : Nat) (hh : h ≤ 7) (hL : L.length = 2 ^ h) (i : Nat) (hi : i < 2 ^ h) (hv : Sl w v 32 L.length (L.flatMap H32.cs)) (hk : Au w) :
 Calls Tryz.prog 61 #[v, .int .i64 i] w fun e w' => ∃ v', e = .returned (.tuple #[v', .int .i64 0]) ∧ AccH w w' v' (EZ h L i) := by
 have hpos : 0 < L.length := by rw [hL]; exact Nat.pow_pos (by omega)
 have h128 : L.length ≤ 128 := by rw [hL]; exact Nat.le_trans (Nat.pow_le_pow_right (by omega) hh) (by omega)
 rw [← hL] at hi
 obtain ⟨a, cap, rfl, hcap, hm63⟩ := hv.form
 obtain ⟨ab, ao, rfl, WH, _⟩ := BU hF (by omega) hv (getD_at L 0 hpos)
 have hfit := fun w => RV w h hh
 rw [← hL] at hfit
 obtain ⟨Hv, HV, HL, Vi, Hlv, HPL⟩ := l6h hv hk hL hfit (Gi h L hL) (FK h L i)
 obtain ⟨n, hn⟩ := nXe (L.length)
 rw [← hn] at Vi h128 hpos hi ⊢
 have Hn := lh hn
 have hd1 : decide ((i : Int) < 0) = false := dF (by omega)
 have hd2 : decide ((n : Int) ≤ (i : Int)) = false := dF (by omega)
 have hd3 : decide (n ≤ i) = false := dF (by omega)
 clear hv hk hL hfit hn hcap hm63
 refine callsIn_wide (n := 3) |>.1 ?_
 refine callsIn_of_wp_marks func61 rfl trivial ?_ rfl
 simp only [ntmps61, List.size_toArray, List.length_cons, List.length_nil, Nat.reduceAdd, Nat.reduceSub, Array.replicate_succ, Array.replicate_zero, List.push_toArray, List.append_toArray, List.nil_append, List.cons_append]
 gi_wp2_with (first | (refine ⟨trivial, ?_⟩; gi_at_call 58; refine (callsIn_wide.2 (Vi.out _)).mono ?_; rintro e w' ⟨rfl, rfl⟩) | (refine ⟨trivial, ?_⟩; gi_at_call 91; refine (callsIn_wide.2 (Ry _ _)).mono ?_; rintro e w' ⟨rfl, rfl⟩))
 obtain ⟨W0, hW0⟩ := nXe ((((w.alloc (.cells #[.int .i64 (i : Int)] 3)).alloc (.cells #[.slice none 0 0] 88)).alloc (.cells #[.slice (some ⟨ab, ao, none⟩) n cap, .func (.func 59) #[] #[]] 120)))
 have hsz : W0.heap.size = w.heap.size + 3 := by rw [hW0]; simp
 have hB0 : Below w.heap.size w W0 := by rw [hW0]; exact (((Below.refl _ w).alloc nR _).alloc (by simp) _).alloc (by simp; omega) _
 have b0 : W0.heap[w.heap.size]? = some (.cells #[.int .i64 (i : Int)] 3 (0, 0)) := by rw [hW0]; exact Ak (Ak (AL _ _) _) _
 have b1 : W0.heap[w.heap.size + 1]? = some (.cells #[.slice none 0 0] 88 (0, 0)) := by rw [hW0]; exact Ak (Ad _ (by simp)) _
 have b2 : W0.heap[w.heap.size + 2]? = some (.cells #[.slice (some ⟨ab, ao, none⟩) L.length cap, .func (.func 59) #[] #[]] 120 (0, 0)) := by rw [hW0, ← Hn.out]; exact Ad _ (by simp)
 have hI0 : InvP w i h L [] (fun _ => False) W0 := ⟨by rw [b0]; simp, ⟨_, b1, Ow.nil _ _ _ _, fun k hk => by simp [Value.ownBlock] at hk⟩, hB0, by omega, fun k hk => hk.elim⟩
 have hsl0 : Sl W0 (.slice (some ⟨ab, ao, none⟩) L.length cap) 32 L.length (L.flatMap H32.cs) := Hv.out.ext (Ext.of_below (S := fun _ => False) hB0) (fun _ _ h => h)
 rw [← hW0]
 clear hW0 b0 b1
 refine NH rfl (by omega) (gf := 110) (lb := #[.pointer (some ⟨w.heap.size + 2, 0, none⟩)]) rfl trivial (enters_of func110 (by kernel_rfl) rfl)
  (Uo 2 (by omega) (w.heap.size + 2) w L h hh HL.out HV.out (.slice (some ⟨ab, ao, none⟩) L.length cap) (fun k hk => by simp [Value.ownBlock] at hk; omega) W0 hB0 b2 hsl0) (by omega) (Below.refl _ _) (fun _ => rfl)
  (fun pre T W => InvP w i h L pre T W)
  (by rw [hsz]; exact InvP.kept) InvP.more (fun pre T => Lev.kept HL.out _) hI0
  (fun u => { tmps := #[.slice (some ⟨ab, ao, none⟩) n cap, .int .i64 (i : Int), undef, .pointer (some ⟨w.heap.size, 0, none⟩), .slice none 0 0, .int .i64 0, .pointer (some ⟨w.heap.size + 1, 0, none⟩), u, .slice (some ⟨ab, ao, none⟩) n cap, .int .i64 (n : Int), .bool true, .bool false, .bool false, .int .i64 (i : Int), .bool false, .bool false, .bool false, .int .i64 (i : Int), .slice (some ⟨ab, ao, none⟩) n cap, .int .i64 (n : Int), .bool false, .bool false, .slice (some ⟨ab, ao, none⟩) n cap, .agg #[.slice (some ⟨ab, ao, none⟩) n cap, .func (.func 59) #[] #[]], .func (.func 110) #[] #[.pointer (some ⟨w.heap.size + 1 + 1, 0, none⟩)], u, undef, undef, undef, undef, undef, undef, undef, undef, undef, undef, undef], defers := [] })
  ?assign ?body ?done
 case assign =>
  intro l u W K hK
  dsimp only [Xq]
  gi_wp2
  exact hK
 case body =>
  intro l pre T u W hI hG hlt
  obtain ⟨v, bV, hO, hvs⟩ := hI.out
  have hib := hI.ib
  have hbel := hI.bel
  have hsW := hI.sz
  obtain ⟨av, cv, rfl, _, _⟩ := hO.form
  have hgs := hG.sl
  obtain ⟨k, hk⟩ := nXe (pre.length)
  rw [← hk] at hO bV hib hgs hlt hvs
  obtain ⟨ua, uc, rfl, huc, hum⟩ := hgs.form
  obtain ⟨g, hg⟩ : ∃ g, h - k = g + 1 := ⟨h - k - 1, by omega⟩
  have hll := Hlv.out k
  rw [hg, Nat.pow_succ] at hll
  have hpk : 2 ^ h = 2 ^ k * (2 ^ g * 2) := by rw [← Nat.pow_succ, ← Nat.pow_add]; congr 1; omega
  have hi2 : i < 2 ^ k * (2 ^ g * 2) := by rw [← hpk, ← HL.out, ← Hn.out]; exact hi
  have hmb : i / 2 ^ k < 2 ^ g * 2 := Nat.div_lt_of_lt_mul hi2
  have hm2 : i / 2 ^ k / 2 = i / 2 ^ (k + 1) := by rw [Nat.div_div_eq_div_mul, Nat.pow_succ]
  have hi128 : i / 2 ^ k ≤ i := Nat.div_le_self _ _
  have hpt := Rs (L := L) (i := i) hlt
  obtain ⟨m, hm⟩ := nXe (i / 2 ^ k)
  rw [← hm] at hmb hm2 hi128 hpt hib
  have hs := TD (i := m) (n := 2 ^ g) (by omega)
  have hx := YH m (by omega)
  obtain ⟨s, hse⟩ := nXe (Re m)
  rw [← hse] at hs hx hpt
  obtain ⟨c, hce⟩ := nXe ((NT h L k).getD s CQ)
  rw [← hce] at hpt
  have hget : (NT h L k)[s]? = some c := by rw [hce]; exact getD_at _ _ (by omega)
  obtain ⟨b, o, rfl, hblt, hcc⟩ := BU hF (by omega) hgs hget
  obtain ⟨C, hC⟩ := nXe (c.A)
  have Tu : ∀ (j : Nat) (u : Value), C.toList[j]? = some u → W.cell? ⟨b, o + s * 32 + j, none⟩ = some u := by rw [hC]; exact hcc
  have HCS := lh (show (Tryz.prog.info? 44).map (·.size) = some C.size by rw [hC]; exact c.info)
  have hCn : C.size = 32 := by rw [hC]; exact c.size
  have HCL := lh (show C.toList = c.cs by rw [hC]; rfl)
  obtain ⟨z, hz⟩ := nXe ((NT h L k).length)
  rw [← hz] at hll huc ⊢
  have hsz2 : s < z := by omega
  have hsI : (s : Int) < (z : Int) := by omega
  have k0 : W.cell? ⟨w.heap.size + 1, 0, none⟩ = some (.slice av k cv) := by rw [AO bV]; rfl
  have k1 : W.cell? ⟨w.heap.size, 0, none⟩ = some (.int .i64 (m : Int)) := by rw [AO hib]; rfl
  obtain ⟨Hx, HO, HBV, Hib, Hvs, HI, Hpt, Hk, Hm2⟩ := l9h hx hO bV hib hvs hI hpt hk hm2
  have hk8 : k ≤ 7 := by omega
  have ek : m < 128 := by omega
  clear hO bV hib hbel hvs hI hG hgs hget hcc hC hce hse hm hx hpt hk hm2 hpk hi2 hmb hs hi128 hll hz hum hI0 b2 hB0 hsl0 hg
  gi_wp2
  refine Dr (S := (fun W' => W'.cell? ⟨w.heap.size + 1, 0, none⟩ = some (.slice av k cv) ∧ W'.cell? ⟨w.heap.size, 0, none⟩ = some (.int .i64 (m : Int)) ∧ (∀ (j : Nat) (u : Value), C.toList[j]? = some u → W'.cell? ⟨b, o + s * 32 + j, none⟩ = some u))) (K := [7, 8]) (by kernel_rfl) (by kernel_rfl) ?_ ?_
  ·rintro ⟨a, w, h⟩
   exact h
  have hS0 : W.drew.cell? ⟨w.heap.size + 1, 0, none⟩ = some (.slice av k cv) ∧ W.drew.cell? ⟨w.heap.size, 0, none⟩ = some (.int .i64 (m : Int)) ∧ (∀ (j : Nat) (u : Value), C.toList[j]? = some u → W.drew.cell? ⟨b, o + s * 32 + j, none⟩ = some u) := ⟨k0, k1, Tu⟩
  clear k0 k1 Tu
  refine Wr.tkI 0 ?_ ?_ hS0 ?_
  rotate_left
  ·intro wq hSw
   obtain ⟨q0, q1, q2⟩ := hSw
   go_simp
   rfl
  simp only [sq]
  refine Wr.tkE 1 ?_ ?_ hS0 ?_
  rotate_left
  ·intro wq _
   go_simp
   rfl
  simp only [sq]
  refine Wr.Bq [3, 4, 5, 6, 7, 8] (i := 2) (v := ?_) rfl (by kernel_rfl) (fun _ _ _ h => h) (Or.inl ⟨by rfl, ?_⟩) hS0 ?_
  rotate_left
  ·intro wq hSw
   obtain ⟨q0, q1, q2⟩ := hSw
   go_simp
   rfl
  simp only [sq]
  refine Wr.tkE 3 ?_ ?_ hS0 ?_
  rotate_left
  ·intro wq _
   go_simp
   rw [Hx.out]
  simp only [sq]
  refine Wr.tkE 4 ?_ ?_ hS0 ?_
  rotate_left
  ·intro wq _
   go_simp
   rfl
  simp only [sq]
  refine Wr.Bq [6, 7, 8] (i := 5) (v := .agg C) rfl (by kernel_rfl) (fun _ _ _ h => h) (Or.inl ⟨by rfl, ?_⟩) hS0 ?_
  ·intro wq hSw
   obtain ⟨q0, q1, q2⟩ := hSw
   exact Cr 44 _ rfl b _ rfl C q2 underlying44 rfl HCS.out
  simp only [sq]
  refine Wr.Ab (i := 6) (by kernel_rfl) ?_
  refine Ap rfl (by rfl) (v := .slice (some ⟨W.heap.size, 0, none⟩) 1 1) (w' := W.drew.alloc (.cells C 44)) (by go_simp; rw [Fy C hCn]; first | done | rfl | exact ⟨rfl, rfl⟩) ?_
  have hsrc := EI (tx := 88) underlying88 hF W.drew c C HCL.out 44
  have NW : Below W.heap.size W (W.drew.alloc (.cells C 44)) := (Bl.drew (Below.refl _ W)).alloc nR _
  have hS1 : (W.drew.alloc (.cells C 44)).cell? ⟨w.heap.size + 1, 0, none⟩ = some (.slice av k cv) ∧ (W.drew.alloc (.cells C 44)).cell? ⟨w.heap.size, 0, none⟩ = some (.int .i64 (m : Int)) ∧ (∀ (j : Nat) (u : Value), C.toList[j]? = some u → (W.drew.alloc (.cells C 44)).cell? ⟨b, o + s * 32 + j, none⟩ = some u) := ⟨AB NW hS0.1, AB NW hS0.2.1, fun j u hu => AB NW (hS0.2.2 j u hu)⟩
  refine ⟨hS1, ?_⟩
  have hz4 : (W.drew.alloc (.cells C 44)).heap.size = W.heap.size + 1 := by simp
  obtain ⟨w4, hw4⟩ := nXe (W.drew.alloc (.cells C 44))
  rw [← hw4] at hS1 hsrc NW hz4 ⊢
  have Yf : Src Tryz.prog 32 88 (.slice (some ⟨W.heap.size, 0, none⟩) 1 1) 1 c.cs w4 := hsrc
  have hO4 : Ow w4 w.heap.size 44 32 (.slice av k cv) k (((EZ h L i).take k).flatMap H32.cs) := HO.out.ext (Ext.ofB NW) (fun _ _ h => h)
  clear hw4 hS0 hsrc
  simp only [sq]
  refine Wr.BJ (i := 7) (by kernel_rfl) (by kernel_rfl) ?_
  refine Wr.Ci rfl (by rfl) _ _ _ _ rfl tyHs w.heap.size (.slice av k cv) k (((EZ h L i).take k).flatMap H32.cs) rfl hO4 (.slice (some ⟨W.heap.size, 0, none⟩) 1 1) 1 c.cs rfl Yf (k + 1) rfl (((EZ h L i).take (k + 1)).flatMap H32.cs) (by rw [Hpt.out, List.flatMap_append, List.flatMap_singleton]) (by unfold maxLen; omega) (by omega) (by omega) ?_
  intro a5 c5 w5 hown5 hgrow5 hat5
  simp only [sq]
  have hne : ∀ j, j < w.heap.size + 3 → some j ≠ (Value.slice av k cv).ownBlock := fun j hj e => by
   have := (Hvs.out j e.symm).1
   omega
  have hB5 : w5.heap[w.heap.size + 1]? = some (.cells #[.slice av k cv] 88 (0, 0)) := by
   rw [hgrow5.block _ (by omega) (hne _ (by omega)), NW.block _ (by omega)]
   exact HBV.out
  have hA5 : w5.heap[w.heap.size]? = some (.cells #[.int .i64 (m : Int)] 3 (0, 0)) := by
   rw [hgrow5.block _ (by omega) (hne _ (by omega)), NW.block _ (by omega)]
   exact Hib.out
  obtain ⟨cx5, fx5⟩ := AA hB5
  refine Wr.BJ (i := 8) (by kernel_rfl) (by kernel_rfl) ?_
  refine BO rfl (by rfl) (w' := w5.setCell ⟨w.heap.size + 1, 0, none⟩ (.slice a5 (k + 1) c5)) (by go_simp; first | done | rfl) ?_
  simp only [sq]
  refine Wr.Ag (by kernel_rfl) ?_ _
  have hA6 : (w5.setCell ⟨w.heap.size + 1, 0, none⟩ (.slice a5 (k + 1) c5)).heap[w.heap.size]? = some (.cells #[.int .i64 (m : Int)] 3 (0, 0)) := by rw [AX _ (by omega)]; exact hA5
  obtain ⟨cy6, fy6⟩ := AA hA6
  have hr : w4.grownBy w5 (Value.slice av k cv).ownBlock := hgrow5
  obtain ⟨w6, hw6⟩ := nXe (w5.setCell ⟨w.heap.size + 1, 0, none⟩ (.slice a5 (k + 1) c5))
  rw [← hw6] at cy6 fy6 ⊢
  have Hw6 := lh hw6
  clear hw6 hA6 hB5 hA5 cx5 fx5
  gi_wp2
  rw [hsz, Hw6.out]
  have hpl : (pre ++ [Value.slice (some ⟨b, o, none⟩) z uc]).length = k + 1 := by rw [List.length_append, ← Hk.out]; rfl
  have := R5 (x := .slice (some ⟨b, o, none⟩) z uc) (m2 := m / 2) (v4 := .slice a5 (k + 1) c5) HI.out NW hO4 Hvs.out hr (by rw [hpl]; exact hown5) hat5 (by rw [hpl]; exact Hm2.out)
  have hq : ((m / 2 : Nat) : Int) = (m : Int) / 2 := by omega
  rw [hq] at this
  exact this
 case done =>
  intro D xs T W hD hl hI hK
  obtain ⟨v, bV, hO, hvs⟩ := hI.out
  rw [hl, List.take_of_length_le (by rw [HPL.out]; exact Nat.le_refl _)] at hO
  obtain ⟨av, cv, rfl, _, _⟩ := hO.form
  obtain ⟨c0, f0⟩ := AA bV
  obtain ⟨HI, HK, HO, HX, Hvs⟩ := l5h hI hK hO bV hvs
  clear hI hK hO hI0 b2 hB0 hsl0 bV hvs hl
  gi_wp2
  refine ⟨by simp, .inl ⟨_, _, rfl, run_takeDeferred HK.out, ?_⟩⟩
  refine ⟨_, results_tmp2 rfl _ _ _, ⟨.slice av h cv, rfl, ?_⟩⟩
  have hb : Below W.heap.size W W := Below.refl _ _
  refine ⟨?_, HI.out.bel.trans (belowK_b (w := w) nR W D _ _ (by omega) HK.out rfl rfl)⟩
  rw [HPL.out]
  exact Ew HO.out (grownBy_putObj' W D _) (fun r e => by cases e; exact ⟨_, HK.out, rfl⟩)
end TreeH
end Go.Proofs.YtceiajepcokacaaGreatDoor
