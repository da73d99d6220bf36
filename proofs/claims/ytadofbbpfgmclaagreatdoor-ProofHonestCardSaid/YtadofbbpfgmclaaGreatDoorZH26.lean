/-
  WHAT IS PROVED: contracts of functions, and plain laws. Condition: what each theorem names.
-/
import Derived.Test.YtadofbbpfgmclaaGreatDoorS0
import Derived.Test.YtadofbbpfgmclaaGreatDoorZTBH19
import Derived.Test.YtadofbbpfgmclaaGreatDoorZH25
import Derived.Deep.CutRange
set_option linter.unusedVariables false
set_option linter.unusedSimpArgs false
set_option maxRecDepth 100000
set_option maxHeartbeats 4000000
namespace Go.Proofs.YtadofbbpfgmclaaGreatDoor
open Go.Proofs.Tryz hiding parts
namespace PhA
open Go Go.RowKit Go.Shelf OctP OctG RowsX Lift ShaS KeyS ShaA Steps KeyA KeyK TreeA WireT RkW BookA PhS PfS
structure Two (R : Nat) (w0 w : World) (va vb : Value) (La Lb : List ByteArray) : Prop where
 a : Ow w w0.heap.size 9 1 va La.length (La.flatMap strN)
 b : Ow w w0.heap.size 9 1 vb Lb.length (Lb.flatMap strN)
 ap : ∀ k, va.ownBlock = some k → vb.ownBlock ≠ some k
 ext : Ext (fun k => k = R) w0 w
section
variable {R : Nat} {w0 w w' : World} {va vb : Value} {La Lb : List ByteArray}
theorem Two.nil (R : Nat) (w : World) : Two R w w (.slice none 0 0) (.slice none 0 0) [] [] := ⟨Ow.nil _ _ _ _, Ow.nil _ _ _ _, fun k h => by simp [Value.ownBlock] at h, Ext.refl _ _⟩
theorem Two.swap (h : Two R w0 w va vb La Lb) : Two R w0 w vb va Lb La := ⟨h.b, h.a, fun k h1 h2 => h.ap k h2 h1, h.ext⟩
theorem Two.step (h : Two R w0 w va vb La Lb) (hE : Ext (fun k => k = R) w w') (hR : R < w0.heap.size) : Two R w0 w' va vb La Lb :=
 ⟨h.a.ext hE (fun k h1 h2 => by have := (h.a.lt k h1).1; omega), h.b.ext hE (fun k h1 h2 => by have := (h.b.lt k h1).1; omega), h.ap, h.ext.trans hE⟩
theorem two_cells {l : List ByteArray} {aa : Option Addr} {n ca : Nat} (h : Ow w w0.heap.size 9 1 (.slice aa n ca) l.length (l.flatMap strN)) (hn : n = l.length) {k : Nat} {x : ByteArray} (hx : l[k]? = some x) :
 ∃ b bo, aa = some ⟨b, bo, none⟩ ∧ b < w.heap.size ∧ w.cell? ⟨b, bo + k, none⟩ = some (.string x) := by
 subst hn
 obtain ⟨b, bo, e, hlt, hc⟩ := Bo strNF (by omega) h.sl hx
 refine ⟨b, bo, e, hlt, ?_⟩
 have := hc 0 (.string x) rfl
 rw [show bo + k * 1 + 0 = bo + k by omega] at this
 exact this
theorem two_cells2 {l : List ByteArray} {aa : Option Addr} {n ca : Nat} (h : Ow w w0.heap.size 9 1 (.slice aa n ca) l.length (l.flatMap strN)) (hn : n = l.length) :
 ∃ b bo, ∀ k x, l[k]? = some x → aa = some ⟨b, bo, none⟩ ∧ w0.heap.size ≤ b ∧ b < w.heap.size ∧ w.cell? ⟨b, bo + k, none⟩ = some (.string x) := by
 cases hl : l[0]? with
 | none => exact ⟨0, 0, fun k x hx => by
  have h1 := (List.getElem?_eq_some_iff.1 hx).1
  have h2 := List.getElem?_eq_none_iff.1 hl
  omega⟩
 | some y =>
   obtain ⟨b, bo, rfl, _, _⟩ := two_cells h hn hl
   refine ⟨b, bo, fun k x hx => ?_⟩
   obtain ⟨b', bo', e, hlt, hc⟩ := two_cells h hn hx
   obtain ⟨rfl, rfl, _⟩ := Addr.mk.inj (Option.some.inj e)
   exact ⟨rfl, (h.lt b rfl).1, hlt, hc⟩
theorem wpList_twoA {ops : Array Oper} {rest : List Oper} {o : Oper} {a : Act} {Q : Exit → Act → World → Prop} (T : Two R w0 w va vb La Lb)
 (hgd : o.guard = none) (s y : Operand) (ho : o.op = .call { callee := .builtin .append, args := #[s, y], argTypes := #[41, 41] }) (hv : a.eval s = va) (x : ByteArray)
 (g : Nat) (hy : a.eval y = .slice (some ⟨g, 0, none⟩) 1 1) (hgw : g = w.heap.size) (hl : La.length ≤ 64)
 (h : ∀ v' w', Two R w0 w' v' vb (La ++ [x]) Lb → Ext (fun k => w0.heap.size ≤ k) w w' → wpList Tryz.prog ops Q rest (a.put o.dst v') w') : wpList Tryz.prog ops Q (o :: rest) a (w.alloc (.cells #[.string x] 9)) := by
 subst hgw
 have hx1 : Ext (fun _ => False) w (w.alloc (.cells #[.string x] 9)) := (Ext.refl _ _).alloc _
 refine Ap _ hgd s y _ _ ho OctQ.Gv w0.heap.size va La.length (La.flatMap strN) hv (T.a.ext hx1 (fun _ _ h => h)) _ 1 (strN x) hy (Dt OctQ.Gv.ht strNF w x #[.string x] rfl 9) (La.length + 1) rfl ((La ++ [x]).flatMap strN) (by rw [List.flatMap_append, List.flatMap_singleton]) (by unfold maxLen; omega) (by omega) (Nat.le_trans T.ext.size hx1.size) ?_
 intro a' c' w' hown hgrow hat
 refine h _ _ ⟨?_, ?_, ?_, ?_⟩ ?_
 ·rw [List.length_append]
  exact hown
 ·have hE : Ext (fun k => va.ownBlock = some k) w w' := Ext.grown ((Ext.refl _ _).alloc _) hgrow (fun k hk => .inl hk)
  exact T.b.ext hE (fun k h1 h2 => T.ap k h2 h1)
 ·intro k hk
  rcases hat with e | e
  ·rw [e] at hk
   exact T.ap k hk
  ·rw [e] at hk
   intro h2
   have h3 := (T.b.lt k h2).2
   have h4 := hx1.size
   have h5 := Option.some.inj hk
   have h6 : (w.alloc (.cells #[.string x] 9)).heap.size = w.heap.size + 1 := by simp
   omega
 ·exact (T.ext.alloc _).grown hgrow (fun k hk => .inr (T.a.lt k hk).1)
 ·exact Ext.grown ((Ext.refl _ _).alloc _) hgrow (fun k hk => .inl (T.a.lt k hk).1)
end
theorem built_gr (sd : ByteArray) (h : Nat) (C Y : Array Value) (hC : C = (D5 (bl sd) h).A) (hY : Y = (grH sd h).A) : Tryz.prog.built 47 [(0, .int .i64 2), (2, .int .i64 4096), (3, .int .i64 (h : Int)), (4, .agg C)] = some Y := by
 have hY2 : Y = (([.int .i64 2, .int .i64 0, .int .i64 4096, .int .i64 (h : Int)] ++ C.toList : List Value)).toArray := by
  rw [hY, hC]
  rfl
 obtain ⟨c0, c1, c2, c3, c4, c5, c6, c7, c8, c9, c10, c11, c12, c13, c14, c15, c16, c17, c18, c19, c20, c21, c22, c23, c24, c25, c26, c27, c28, c29, c30, c31, hc⟩ := HdT.cells32 C (by rw [hC]; exact H32.size _)
 rw [hY2, hc]
 clear hY2 hc hC hY Y C
 obtain ⟨h, hh⟩ : ∃ i : Int, i = (h : Int) := ⟨_, rfl⟩
 rw [← hh]
 clear hh
 change _ = _
 kernel_rfl
theorem grant_sl {w : World} {GB : Nat} {GA : Array Value} {L : List Gr'} (h : w.heap[GB]? = some (.cells GA 47 (0, 0))) (hc : GA.toList = L.flatMap Gr'.cs) (h1 : L.length = 1 := by rfl) : Sl w (.slice (some ⟨GB, 0, none⟩) 1 1) 36 L.length (L.flatMap Gr'.cs) := by
 rw [h1]
 refine ⟨by rw [grF.total, h1], .inr ⟨_, 1, rfl, Nat.le_refl _, by decide, fun j u hu => ?_⟩⟩
 rw [← hc] at hu
 rw [Addr.add_mid, Nat.zero_add, AO h, ← hu]
 simp
theorem exec_build {P : Program} {o : Oper} {a : Act} {w : World} (t : TypeId) (parts : Array (Nat × Operand)) (ho : o.op = .build t parts) (cells : Array Value)
 (hb : P.built t (parts.map fun (i, x) => (i, a.eval x)).toList = some cells) : (execOp a.eval o).run P w = .ok (.value (.agg cells)) w := by
 have := run_build (P := P) w t (parts.map fun (i, x) => (i, a.eval x)) cells hb
 simp only [execOp, ho, Sem.run_bind, this, Result.andThen_ok]
 rfl
theorem Sign_any (w : World) (R : Nat) (sd text : ByteArray) (h m : Nat) (v : Value) (hs : sd.size ≤ 64) (ht : text.size ≤ 8192) (hh : h ≤ 7) (hm : m ≤ 2 ^ h) (hr : w.heap[R]? = some (.cells (Bu sd h m v (D5 (bl sd) h)) 71 (0, 0)))
 (hv : Sl w v 32 (2 ^ h) ((Bv (bl sd) (2 ^ h)).flatMap H32.cs)) (hk : Al w) :
 Calls Tryz.prog 17 #[.pointer (some ⟨R, 0, none⟩), .string text] w fun e w' => ∃ (g : ByteArray) (y : Int) (m' : Nat), e = .returned (.tuple #[.string g, .int .i64 y]) ∧ m' ≤ 2 ^ h ∧
  w'.heap[R]? = some (.cells (Bu sd h m' v (D5 (bl sd) h)) 71 (0, 0)) ∧ Ext (fun k => k = R) w w' ∧ ((y = 0 ∧ PhS.Good sd h (text, g)) ∨ y = 10) := by
 by_cases hlt : m < 2 ^ h
 ·refine (KeyM.Fb w R sd text h m v _ hs (by omega) hh hlt hr hv hk).mono ?_
  rintro e w' ⟨rfl, h1, h2⟩
  exact ⟨_, 0, m + 1, rfl, hlt, h1, h2, .inl ⟨rfl, ht, m, hlt, rfl⟩⟩
 ·obtain rfl : m = 2 ^ h := by omega
  refine (PkC.Sign_over w R sd text h v _ _ hh hr hv).mono ?_
  rintro e w' ⟨rfl, hb⟩
  exact ⟨_, 10, 2 ^ h, rfl, Nat.le_refl _, (hb.block _ (AB hr)).trans hr, Ext.of_below hb, .inr rfl⟩
theorem two_val {s t : List UInt8} {y1 y2 : Int} {r1 r2 : ByteArray} {e1 e2 i1 i2 : Int} {p1 p2 : List UInt8}
 (h1 : (y1 = 6 ∧ says s = none) ∨ (y1 = 0 ∧ ∃ x, says s = some x ∧ r1 = bsOf x.room ∧ e1 = x.ep ∧ i1 = x.ix ∧ p1 = x.sum))
 (h2 : (y2 = 6 ∧ says t = none) ∨ (y2 = 0 ∧ ∃ x, says t = some x ∧ r2 = bsOf x.room ∧ e2 = x.ep ∧ i2 = x.ix ∧ p2 = x.sum)) :
 twoP s t = ((y1 == 0) && ((y2 == 0) && ((r1.toList == r2.toList) && ((e1 == e2) && ((i1 == i2) && !EqHash.hEq p1 p2))))) := by
 rcases h1 with ⟨rfl, e⟩ | ⟨rfl, x, e, rfl, rfl, rfl, rfl⟩
 ·unfold twoP
  rw [e]
  rfl
 ·rcases h2 with ⟨rfl, f⟩ | ⟨rfl, z, f, rfl, rfl, rfl, rfl⟩
  ·unfold twoP
   rw [e, f]
   rfl
  ·have hh : EqHash.hEq x.sum z.sum = decide (x.sum = z.sum) := by
        rw [Bool.eq_iff_iff, EqHash.hEq_iff (GM e).2.1 (GM f).2.1]
        simp
   unfold twoP
   rw [e, f, hh, PfC.room_eq]
   cases hd1 : decide (x.room = z.room) <;> cases hd2 : (x.ep == z.ep) <;> cases hd3 : (x.ix == z.ix) <;> simp_all
theorem says_row2 (s : List UInt8) : ∃ (F : Array Value) (y : Int) (r : ByteArray) (ep ix : Int) (p : List UInt8) (g : ByteArray), hdV (says s) = .tuple #[.agg F, .int .i64 y] ∧ HdP F r ep ix p g ∧ F.all (·.oneCell') = true ∧ ((y = 6 ∧ says s = none) ∨ (y = 0 ∧ ∃ x, says s = some x ∧ r = bsOf x.room ∧ ep = x.ep ∧ ix = x.ix ∧ p = x.sum)) := by
 cases hx : says s with
 | none => exact ⟨hdZ, 6, ⟨#[]⟩, 0, 0, Cc, ⟨#[]⟩, rfl, ⟨rfl, rfl⟩, BI _ _ _ _ _, .inl ⟨rfl, rfl⟩⟩
 | some x => exact ⟨_, 0, bsOf x.room, x.ep, x.ix, x.sum, bsOf x.sig, rfl, ⟨rfl, (GM hx).2.1⟩, BI _ _ _ _ _, .inr ⟨rfl, x, rfl, rfl, rfl, rfl, rfl⟩⟩
end PhA
namespace PhN
open Go Go.RowKit Go.Shelf OctetS IdentS EntS OctG IdentP EntP EventC ShaA Steps RowsX Lift KeyA KeyI KeyK TreeA WireS WireT BookA RkW PhS PhA PfS PfA
attribute [-go_sem] run_equalIn_agg
attribute [-go_sem] Builtin.append_
theorem honest_ok (w : World) (hv : Ag w) (hk : Al w) (sd : ByteArray) (kh kn : Int) (hsd : sd.size ≤ maxLen) (vt : Value) (ts : List ByteArray) (ht : Sl w vt 1 ts.length (ts.flatMap strN)) (p : Array Value) (n0 : Int) (a x b y : ByteArray) (hp : p = pfA n0 a x b y) (ha : a.size ≤ 140737488351232) (hx : x.size ≤ maxLen) (hb' : b.size ≤ maxLen) (hy : y.size ≤ maxLen) :
 Calls Tryz.prog 5 #[.agg (kyA sd kh kn), vt, .agg p] w (RB (.bool true) w) := by
 obtain ⟨ta, tcap, rfl, htcap, htm⟩ := ht.form
 have Hrow := lh (fun (k : Nat) (t : ByteArray) (hx : ts[k]? = some t) => Bo strNF (by omega) ht hx)
 obtain ⟨n, hn⟩ := nXe (ts.length)
 rw [← hn] at htcap ⊢
 have Hn := lh hn
 clear hn ht
 have hn63 : n ≤ 9223372036854775807 := by unfold maxLen at htm; omega
 have hno := fun w hq => PkC.Make_no w sd kh kn hsd hq
 obtain ⟨K, hK⟩ := nXe (kyA sd kh kn)
 have p1 : K[1]? = some (.int .i64 kh) := by rw [hK]; rfl
 rw [← hK] at hno ⊢
 have HKS := lh (show (Tryz.prog.info? 40).map (·.size) = some K.size by rw [hK]; kernel_rfl)
 have HpS := lh (show (Tryz.prog.info? 24).map (·.size) = some p.size by rw [hp]; kernel_rfl)
 obtain ⟨w0, hw0⟩ := nXe ((w.alloc (.cells K 40)).alloc (.cells p 24))
 have hb0 : Below w.heap.size w w0 := by rw [hw0]; exact bAx.alloc (by simp) _
 have HK0 : Hid (w0.heap[w.heap.size]? = some (.cells K 40 (0, 0))) := lh (by rw [hw0]; exact Ao (AL _ _) _)
 have HP0 : Hid (w0.heap[w.heap.size + 1]? = some (.cells p 24 (0, 0))) := lh (by rw [hw0]; exact Ah _ (by simp))
 obtain ⟨HBL0, HW0, HV, HH, HP1c, Hno, HKe, Hpe⟩ := l8h hb0 hw0 hv hk p1 hno hK hp
 clear hw0 hb0 hv hk p1 hno htm hK hp
 cases hq : RkF.keyB sd.size kh kn
 ·skip
  go_enter func5, ntmps5
  go_wp2_with fail
  rw [← HW0.out]
  refine (PfQ.Ej w0 (HV.out.below HBL0.out) (HH.out.below HBL0.out)).mono ?_
  rintro e' w1 ⟨rfl, hb⟩
  have HK1 := kpB hb HK0
  have HP1 := kpB hb HP0
  have HBL1 := tbB HBL0 hb
  clear hb
  go_wp2_with (first | (refine wpList_load_row rfl _ _ rfl w.heap.size rfl _ K (0, 0) _ HK1.out underlying40 rfl HKS.out ?_) | fail)
  refine (Hno.out w1 hq).mono ?_
  rintro e' w2 ⟨rfl, hb⟩
  have HBL2 := tbB HBL1 hb
  clear hb hq
  go_wp2_with fail
  go_ret
  exact ⟨rfl, HBL2.out⟩
 ·skip
  have hkb : 1 ≤ sd.size ∧ sd.size ≤ 64 ∧ 0 ≤ kh ∧ kh ≤ 7 ∧ 0 ≤ kn ∧ kn ≤ ((2 ^ kh.toNat : Nat) : Int) := by
   unfold RkF.keyB at hq
   simpa only [Bool.and_eq_true, decide_eq_true_eq] using hq
  obtain ⟨hs1, hs64, hh0, hh7, hn0, hn2⟩ := hkb
  clear hq Hno
  obtain ⟨h, rfl⟩ : ∃ h : Nat, kh = h := ⟨kh.toNat, by omega⟩
  obtain ⟨nx, rfl⟩ : ∃ n : Nat, kn = n := ⟨kn.toNat, by omega⟩
  have hh : h ≤ 7 := by omega
  have hnx : nx ≤ 2 ^ h := by
   rw [Int.toNat_natCast] at hn2
   exact Int.ofNat_le.1 hn2
  have hM := fun w hk => Make_yes w sd h nx hs1 hs64 hh hnx hk
  rw [← HKe.out] at hM
  have HM := lh hM
  clear hM hn2 hn0 hh7 hh0 hs1
  by_cases hsmall : h ≤ 3 ∧ n ≤ 8
  ·obtain ⟨h3, hn8⟩ := hsmall
   have hd3 : decide ((3 : Int) < (h : Int)) = false := dF (by omega)
   have hd4 : decide (3 < h) = false := dF (by omega)
   have hd5 : decide ((8 : Int) < (n : Int)) = false := dF (by omega)
   have hd6 : decide (8 < n) = false := dF (by omega)
   have hn4 : ¬ 3 < h := by omega
   have hn9 : ¬ 8 < n := by omega
   obtain ⟨C, hC⟩ := nXe ((D5 (bl sd) h).A)
   obtain ⟨GA, hGA⟩ := nXe ((grH sd h).A)
   have hGAn : GA.size = 36 := by rw [hGA]; unfold Gr'.A; rw [List.size_toArray, grF.len]
   have hGAc : GA.toList = [grH sd h].flatMap Gr'.cs := by rw [hGA]; simp [Gr'.A]
   have hGAb : Tryz.prog.built 47 [(0, .int .i64 2), (2, .int .i64 4096), (3, .int .i64 (h : Int)), (4, .agg C)] = some GA := PhA.built_gr sd h C GA hC hGA
   have hRt : ∀ (w : World) (R : Nat) (v : Value), w.heap[R]? = some (.cells (Bu sd h nx v (D5 (bl sd) h)) 71 (0, 0)) → Calls Tryz.prog 16 #[.pointer (some ⟨R, 0, none⟩)] w (RB (.agg C) w) := fun w R v h1 => by rw [hC]; exact PkC.RingRoot_any w R sd h nx v _ h1
   obtain ⟨HGAn, HGAc, HGAb, HRt⟩ := l4h hGAn hGAc hGAb hRt
   clear hC hGA hGAn hGAc hGAb hRt
   go_enter func5, ntmps5
   go_wp2_with fail
   rw [← HW0.out]
   refine (PfQ.Ej w0 (HV.out.below HBL0.out) (HH.out.below HBL0.out)).mono ?_
   rintro e' w1 ⟨rfl, hb⟩
   have HK1 := kpB hb HK0
   have HP1 := kpB hb HP0
   have HBL1 := tbB HBL0 hb
   clear hb
   go_wp2_with (first | (refine wpList_load_row rfl _ _ rfl w.heap.size rfl _ K (0, 0) _ HK1.out underlying40 rfl HKS.out ?_) | fail)
   refine (HM.out w1 (HH.out.below HBL1.out)).mono ?_
   rintro e' w3 ⟨R, u, rfl, hR, hb⟩
   have HK3 := kpB hb HK1
   have HP3 := kpB hb HP1
   have HBL3 := tbB HBL1 hb
   have HR := lh hR
   have hge : w.heap.size + 1 < R := by
        have h1 := AB HP1.out
        have h2 := hR.ge
        omega
   clear hb hR HM
   have c1 : w3.cell? ⟨w.heap.size, 1, none⟩ = some (.int .i64 (h : Int)) := (AO HK3.out).trans HP1c.out
   obtain ⟨RA, hRA⟩ := nXe (Bu sd h nx u (D5 (bl sd) h))
   obtain ⟨HRA, HRR3⟩ := l2h hRA HR.out.row
   have hRt3 := fun w => HRt.out w R u
   rw [← hRA] at HRR3 hRt3
   have HRt3 := lh hRt3
   clear hRA hRt3 HRt
   have lR3 := AB HRR3.out
   go_upto_region 6 with fail
   clear hd3 hd4 hd5 hd6 hn4 hn9 c1
   go_cut [9] from 65 to 71 (fun t wx => ∃ (g : Nat), t = .slice (some ⟨g, 0, none⟩) 1 1 ∧ wx.heap[g]? = some (.cells GA 47 (0, 0)) ∧ w3.heap.size ≤ g ∧ Below w3.heap.size w3 wx)
   case first =>
        have HB3 := lh (Below.refl w3.heap.size w3)
        refine wp_region_noPanic ?_
        refine wp_region_held (S := (fun W => W.heap[w.heap.size]? = some (.cells K 40 (0, 0)) ∧ W.heap[R]? = some (.cells RA 71 (0, 0)))) (by kernel_rfl) ?_
        change wpAnyH _ _ _ _ _ _ _ _ (World.drew w3)
        have hS0 : (w3.drew).heap[w.heap.size]? = some (.cells K 40 (0, 0)) ∧ (w3.drew).heap[R]? = some (.cells RA 71 (0, 0)) := ⟨HK3.out, HRR3.out⟩
        refine tkH (i := 0) (v := ?_) rfl (.inl ⟨by rfl, ?_⟩) hS0 ?_
        rotate_left
        ·intro wq hSw
         obtain ⟨q0, q1⟩ := hSw
         obtain ⟨qc0, qf0⟩ := AJ q0
         obtain ⟨qc1, qf1⟩ := AJ q1
         go_simp
         rfl
        simp only [Act.put, sxx]
        refine tkH (i := 1) (v := ?_) rfl (.inl ⟨by rfl, ?_⟩) hS0 ?_
        rotate_left
        ·intro wq hSw
         obtain ⟨q0, q1⟩ := hSw
         obtain ⟨qc0, qf0⟩ := AJ q0
         obtain ⟨qc1, qf1⟩ := AJ q1
         have e1 := HP1c.out
         go_simp
         rfl
        simp only [Act.put, sxx]
        refine tkH (i := 2) (v := ?_) rfl (.inl ⟨by rfl, ?_⟩) hS0 ?_
        rotate_left
        ·intro wq hSw
         obtain ⟨q0, q1⟩ := hSw
         obtain ⟨qc0, qf0⟩ := AJ q0
         obtain ⟨qc1, qf1⟩ := AJ q1
         go_simp
         rfl
        simp only [Act.put, sxx]
        refine aOne (r := 3) ?_
        refine BO rfl (by rfl) (by go_simp; first | rfl | exact ⟨⟨rfl, rfl⟩, rfl⟩ | exact ⟨rfl, rfl⟩) ?_
        refine (HRt3.out (w3.drew) hS0.2).mono ?_
        rintro e w4 ⟨rfl, hb_w4⟩
        have HB_w4 := lh (((HB3.out).drew).trans (hb_w4.mono ((HB3.out).drew).size))
        have p1_0 : (w4).heap[w.heap.size]? = some (.cells K 40 (0, 0)) := (hb_w4.block _ (AB HK3.out)).trans HK3.out
        have p1_1 : (w4).heap[R]? = some (.cells RA 71 (0, 0)) := (hb_w4.block _ (AB HRR3.out)).trans HRR3.out
        have hS1 : (w4).heap[w.heap.size]? = some (.cells K 40 (0, 0)) ∧ (w4).heap[R]? = some (.cells RA 71 (0, 0)) := ⟨p1_0, p1_1⟩
        clear hb_w4
        refine ⟨_, rfl, ?_, ?_⟩
        ·exact hS1
        simp only [Act.put, sxx]
        refine tkH (i := 4) (v := .agg GA) rfl (.inl ⟨by rfl, ?_⟩) hS1 ?_
        ·intro wq hSw
         obtain ⟨q0, q1⟩ := hSw
         obtain ⟨qc0, qf0⟩ := AJ q0
         obtain ⟨qc1, qf1⟩ := AJ q1
         exact exec_build _ _ rfl GA (by first | exact HGAb.out | (go_simp; exact HGAb.out))
        simp only [Act.put, sxx]
        have hGAn := HGAn.out
        refine aOne (r := 5) ?_
        refine Au rfl (by rfl) (w' := w4.alloc (.cells GA 47)) (v := .slice (some ⟨w4.heap.size, 0, none⟩) 1 1) (by go_simp; first | done | rfl | (rw [EntQ.fold_any #[.int .i64 0, .int .i64 0, .int .i64 0, .int .i64 0, .int .u8 0, .int .u8 0, .int .u8 0, .int .u8 0, .int .u8 0, .int .u8 0, .int .u8 0, .int .u8 0, .int .u8 0, .int .u8 0, .int .u8 0, .int .u8 0, .int .u8 0, .int .u8 0, .int .u8 0, .int .u8 0, .int .u8 0, .int .u8 0, .int .u8 0, .int .u8 0, .int .u8 0, .int .u8 0, .int .u8 0, .int .u8 0, .int .u8 0, .int .u8 0, .int .u8 0, .int .u8 0, .int .u8 0, .int .u8 0, .int .u8 0, .int .u8 0] GA 36 rfl HGAn.out])) ?_
        obtain ⟨w5, hw_w5⟩ := nXe (w4.alloc (.cells GA 47))
        rw [← hw_w5]
        have hb_w5 : Below w4.heap.size w4 w5 := by rw [hw_w5]; exact bAx
        have HB_w5 := lh ((HB_w4.out).trans (hb_w5.mono (HB_w4.out).size))
        have hn_w5 : w5.heap[w4.heap.size]? = some (.cells GA 47 (0, 0)) := by rw [hw_w5]; exact Ah _ rfl
        have p2_0 : (w5).heap[w.heap.size]? = some (.cells K 40 (0, 0)) := (hb_w5.block _ (AB p1_0)).trans p1_0
        have p2_1 : (w5).heap[R]? = some (.cells RA 71 (0, 0)) := (hb_w5.block _ (AB p1_1)).trans p1_1
        have hS2 : (w5).heap[w.heap.size]? = some (.cells K 40 (0, 0)) ∧ (w5).heap[R]? = some (.cells RA 71 (0, 0)) := ⟨p2_0, p2_1⟩
        clear hb_w5 hw_w5
        refine ⟨hS2, ?_⟩
        simp only [Act.put, sxx]
        refine tkH (i := 6) (v := ?_) rfl (.inl ⟨by rfl, ?_⟩) hS2 ?_
        rotate_left
        ·intro wq hSw
         obtain ⟨q0, q1⟩ := hSw
         obtain ⟨qc0, qf0⟩ := AJ q0
         obtain ⟨qc1, qf1⟩ := AJ q1
         go_simp
         rfl
        simp only [Act.put, sxx]
        refine wpAnyH_done (by kernel_rfl) (NoPanic.normal ?_) _
        go_wp2_with fail
        go_meet
        exact ⟨w4.heap.size, rfl, hn_w5, by have := HB_w4.out.size; omega, HB_w5.out⟩
   case rest =>
        obtain ⟨GB, rfl, hg, hgb, hb⟩ := hcut
        have HPc := kpB hb HP3
        have HRRc := kpB hb HRR3
        have HBLc := tbB HBL3 hb
        have HGB := lh hg
        have hRG : R < GB := by omega
        have HSLu := lh (HR.out.lv.sl.below hb)
        have hRw := hge
        have HSep := lh HR.out.sep
        clear hb hg hgb lR3 HK0 HK1 HK3 HRR3
        have HRRc' := lh (show wc.heap[R]? = some (.cells (Bu sd h nx u (D5 (bl sd) h)) 71 (0, 0)) by rw [← HRA.out]; exact HRRc.out)
        have lRc := AB HRRc.out
        have lPc := AB HPc.out
        have lGc := AB HGB.out
        clear HRRc HR
        go_wp2
        go_loopw [10, 11, 73] (fun va vb i wr => ∃ (ua ub : Value) (k m : Nat) (L : List (ByteArray × ByteArray)), ua = va ∧ ub = vb ∧ i = .int .i64 k ∧ k ≤ n ∧ L.length ≤ k ∧ m ≤ 2 ^ h ∧ (∀ x ∈ L, PhS.Good sd h x) ∧ wr.heap[R]? = some (.cells (Bu sd h m u (D5 (bl sd) h)) 71 (0, 0)) ∧ Two R wc wr ua ub (L.map Prod.fst) (L.map Prod.snd)) (fun _ _ i _ => n - (intOf i).toNat)
        case atStart => exact ⟨_, _, 0, nx, [], rfl, rfl, rfl, by omega, by simp, hnx, by simp, HRRc'.out, Two.nil R wc⟩
        case round =>
         obtain ⟨ua, ub, k, m, L, rfl, rfl, rfl, hk, hLk, hm, hG, hrr, hT⟩ := hrel
         obtain ⟨HG, HT, HRRr⟩ := l3h hG hT hrr
         have HBLr := lh (Bl.ext HBLc.out (hT.ext) (fun k h1 h2 => by omega))
         have HPr := lh (hT.ext.CS HPc.out (fun h => by omega))
         have HGr := lh (hT.ext.CS HGB.out (fun h => by omega))
         have lRr := AB hrr
         clear hG hT hrr
         by_cases hlt : k < n
         ·skip
          obtain ⟨t, hx⟩ : ∃ x, ts[k]? = some x := ⟨_, List.getElem?_eq_getElem (by rw [← Hn.out]; exact hlt)⟩
          obtain ⟨b, bo, rfl, hblt, hcc⟩ := Hrow.out k t hx
          have hcell : wr.cell? ⟨b, bo + k, none⟩ = some (.string t) := by
           have h0 := hcc 0 (.string t) rfl
           rw [show bo + k * 1 + 0 = bo + k by omega] at h0
           exact (HBLr.out.cell (p := ⟨b, bo + k, none⟩) hblt).trans h0
          have hblr : b < wr.heap.size := Nat.lt_of_lt_of_le hblt HBLr.out.size
          clear hcc hx Hrow
          by_cases hbig : 8192 < t.size
          ·skip
           have hdb : decide ((8192 : Int) < (t.size : Int)) = true := dT (by omega)
           go_wp2
           go_roundw
           case rel => exact ⟨_, _, k + 1, m, L, rfl, rfl, by go_num, by omega, by omega, hm, HG.out, HRRr.out, HT.out⟩
           case measure => simp [intOf]; omega
          ·skip
           have hdb : decide ((8192 : Int) < (t.size : Int)) = false := dF (by omega)
           have hSg := Sign_any wr R sd t h m u hs64 (by omega) hh hm HRRr.out (Sl.ext HSLu.out HT.out.ext (fun k h1 h2 => by have := HSep.out k h1; omega)) (HH.out.below HBLr.out)
           have HSg := lh hSg
           clear hSg
           go_wp2_with fail
           refine HSg.out.mono ?_
           rintro e w5 ⟨g, y, m', rfl, hm', hr', hE, hy⟩
           obtain ⟨HT5, HRR5⟩ := l2h (HT.out.step hE lRc) hr'
           clear hE hr' HSg
           rcases hy with ⟨rfl, hg⟩ | rfl
           ·skip
            have hLa : (L.map Prod.fst).length ≤ 64 := by rw [List.length_map]; omega
            have hLb : (L.map Prod.snd).length ≤ 64 := by rw [List.length_map]; omega
            have HGd := lh hg
            clear hg
            go_wp2_with (at_builtin; go_must (refine wpList_twoA HT5.out rfl _ _ rfl rfl t _ rfl (by first | rfl | simp) ?hl ?go))
            case hl => exact hLa
            case go =>
            intro v6 w6 T6 E6
            have HT6 := lh T6
            have HRR6 := lh (E6.CS HRR5.out (fun h => by omega))
            clear T6 E6
            go_wp2_with (at_builtin; go_must (refine wpList_twoA HT6.out.swap rfl _ _ rfl rfl g _ rfl (by first | rfl | simp) ?hl ?go))
            case hl => exact hLb
            case go =>
            intro v7 w7 T7 E7
            have HT7 := lh T7.swap
            have HRR7 := lh (E7.CS HRR6.out (fun h => by omega))
            clear T7 E7
            go_wp2
            go_roundw
            case rel => exact ⟨_, _, k + 1, m', L ++ [(t, g)], rfl, rfl, by go_num, by omega, by simp; omega, hm', by
               intro x hx
               rcases List.mem_append.1 hx with h1 | h1
               ·exact HG.out x h1
               ·rw [List.mem_singleton.1 h1]
                exact HGd.out, HRR7.out, by rw [List.map_append, List.map_append]; exact HT7.out⟩
            case measure => simp [intOf]; omega
           ·skip
            go_wp2
            go_roundw
            case rel => exact ⟨_, _, k + 1, m', L, rfl, rfl, by go_num, by omega, by omega, hm', HG.out, HRR5.out, HT5.out⟩
            case measure => simp [intOf]; omega
         ·skip
          obtain rfl : n = k := by omega
          have hl8 : L.length ≤ 8 := by omega
          obtain ⟨aa, ca, rfl, hca, hcm⟩ := HT.out.a.form
          obtain ⟨ab, cb, rfl, hcb, hcmb⟩ := HT.out.b.form
          obtain ⟨b1, o1, CA⟩ := two_cells2 HT.out.a rfl
          obtain ⟨b2, o2, CB⟩ := two_cells2 HT.out.b rfl
          have CA' := lh (fun (k : Nat) (x : ByteArray × ByteArray) (hx : L[k]? = some x) => CA k x.1 (by rw [List.getElem?_map, hx]; rfl))
          have CB' := lh (fun (k : Nat) (x : ByteArray × ByteArray) (hx : L[k]? = some x) => CB k x.2 (by rw [List.getElem?_map, hx]; rfl))
          obtain ⟨l, hl⟩ := nXe (L.length)
          simp only [List.length_map, ← hl] at hca hcb ⊢
          rw [← hl] at hl8
          have HL := lh hl
          clear CA CB hl hLk hlt Hrow hcm hcmb HT HRRr lRr lRc HSLu hm hnx hk HP1c Hn HRRc'
          obtain ⟨wd, rfl⟩ : ∃ x : World, x = wr := ⟨_, rfl⟩
          have HDd := lh (Below.refl wd.heap.size wd)
          go_wp2
          go_loopw [16, 99] (fun q i wr => ∃ (c : Bool) (k : Nat), q = .bool c ∧ i = .int .i64 k ∧ k ≤ l ∧ (c = true → PhS.Calm L k) ∧ Below wd.heap.size wd wr) (fun _ i _ => l - (intOf i).toNat)
          case atStart => exact ⟨true, 0, rfl, rfl, by omega, fun _ => calm_zero L, HDd.out⟩
          case round =>
           obtain ⟨c, k, rfl, rfl, hk, hc, hb⟩ := hrel
           have HC := lh hc
           have HBL2 := tbB HBLr hb
           have HD2 := lh hb
           clear hc hb
           by_cases hlt : k < l
           ·skip
            obtain ⟨x1, hx⟩ : ∃ x, L[k]? = some x := ⟨_, List.getElem?_eq_getElem (by rw [← HL.out]; exact hlt)⟩
            have hGx := HG.out x1 (List.mem_of_getElem? hx)
            obtain ⟨HGx, HX⟩ := l2h hGx hx
            obtain ⟨rfl, _, hb1, hc1⟩ := CA'.out k x1 hx
            obtain ⟨rfl, _, hb2, hc2⟩ := CB'.out k x1 hx
            have d1 := (HD2.out.cell (p := ⟨b1, o1 + k, none⟩) hb1).trans hc1
            have l1 : b1 < wr.heap.size := Nat.lt_of_lt_of_le hb1 HD2.out.size
            obtain ⟨HC1, HC2⟩ := l2h hc1 hc2
            clear hx hGx hc1 hc2
            obtain ⟨FA, yA, rA, eA, iA, qA, gA, hF, hPP, hO, hSA⟩ := says_row2 (bl x1.1)
            have hs := fun w hv hk => G8 w x1.1 (by have := HGx.out.len; omega) hv hk
            rw [hF] at hs
            have HSA := lh hs
            have HFAS := lh (show (Tryz.prog.info? 29).map (·.size) = some FA.size by rw [hPP.size]; kernel_rfl)
            have HFAN := lh (show 36 = FA.size from hPP.size.symm)
            obtain ⟨HFAO, HPA, HYA⟩ := l3h hO hPP hSA
            clear hF hPP hO hs hSA
            go_wp2_with fail
            refine (HSA.out _ (HV.out.below HBL2.out) (HH.out.below HBL2.out)).mono ?_
            rintro e w7 ⟨rfl, hb⟩
            have HBL7 := tbB HBL2 hb
            have HD7 := tbB HD2 hb
            clear hb
            go_wp2_with (first | (refine AC rfl _ _ _ rfl w7.heap.size FA rfl rfl _ _ (AL _ _) HFAS.out (by rw [← HFAN.out]; rfl) HFAO.out ?_) | fail)
            intro u1 hu1
            have hb : Below w7.heap.size w7 u1 := by rw [hu1.out]; exact AQ bAx nR _
            have hy : u1.heap[w7.heap.size]? = some (.cells FA 29 (0, 0)) := by rw [hu1.out]; exact AR (AL _ _)
            clear hu1
            obtain ⟨w8, hww⟩ : ∃ w', w' = u1 := ⟨_, rfl⟩
            rw [← hww] at hb hy ⊢
            clear hww
            obtain ⟨BX, hB⟩ := nXe (w7.heap.size)
            rw [← hB] at hy ⊢
            clear hB
            have HBX8 := lh hy
            clear hy
            have HBL8 := tbB HBL7 hb
            have HD8 := tbB HD7 hb
            clear hb
            clear d1 l1
            have hkc : k ≤ ca := by omega
            have hkc2 : (k : Int) ≤ (ca : Int) := by omega
            obtain ⟨wo, rfl⟩ : ∃ x : World, x = wr := ⟨_, rfl⟩
            go_wp2
            go_loopw [16, 113] (fun q j wr => ∃ (c : Bool) (jj : Nat), q = .bool c ∧ j = .int .i64 jj ∧ jj ≤ k ∧ (c = true → PhS.Calm L k ∧ ∀ b y, b < jj → L[b]? = some y → twoP (bl x1.1) (bl y.1) = false) ∧ Below w8.heap.size w8 wr) (fun _ i _ => k - (intOf i).toNat)
            case atStart => exact ⟨c, 0, rfl, rfl, by omega, fun h => ⟨HC.out h, fun b y hb => absurd hb (by omega)⟩, Below.refl _ _⟩
            case round =>
               obtain ⟨c3, j, rfl, rfl, hj, hc, hb⟩ := hrel
               have HC3 := lh hc
               have HBL3 := tbB HBL8 hb
               have HD3 := tbB HD8 hb
               have HX3 := lh hb
               have HBX3 := kpB hb HBX8
               clear hc hb HBX8
               by_cases hjl : j < k
               ·skip
                have hjl2 : j < l := by omega
                obtain ⟨x2, hx⟩ : ∃ x, L[j]? = some x := ⟨_, List.getElem?_eq_getElem (by rw [← HL.out]; exact hjl2)⟩
                obtain ⟨HGy, HX2⟩ := l2h (HG.out x2 (List.mem_of_getElem? hx)) hx
                obtain ⟨_, _, _, hc1⟩ := CA'.out j x2 hx
                obtain ⟨_, _, _, hc2⟩ := CB'.out j x2 hx
                have d1 := (HD3.out.cell (p := ⟨b1, o1 + j, none⟩) hb1).trans hc1
                have l1 : b1 < wr.heap.size := Nat.lt_of_lt_of_le hb1 HD3.out.size
                have HC4 := lh hc2
                clear hx hc1 hc2
                obtain ⟨FB, yB, rB, eB, iB, qB, gB, hF, hPP, hO, hSB⟩ := says_row2 (bl x2.1)
                have hs := fun w hv hk => G8 w x2.1 (by have := HGy.out.len; omega) hv hk
                rw [hF] at hs
                have HSB := lh hs
                have HFBS := lh (show (Tryz.prog.info? 29).map (·.size) = some FB.size by rw [hPP.size]; kernel_rfl)
                have HFBN := lh (show 36 = FB.size from hPP.size.symm)
                obtain ⟨HFBO, HPB, HYB⟩ := l3h hO hPP hSB
                clear hF hPP hO hs hSB
                obtain ⟨tw, htw⟩ := nXe (twoP (bl x1.1) (bl x2.1))
                have htv : tw = ((yA == 0) && ((yB == 0) && ((rA.toList == rB.toList) && ((eA == eB) && ((iA == iB) && !EqHash.hEq qA qB))))) := by rw [htw]; exact two_val HYA.out HYB.out
                obtain ⟨E, hE⟩ := nXe (Bg [grH sd h] (pfO 2 x1.1 x1.2 x2.1 x2.2))
                have hEt : (E == 0) = tw := by rw [htw]; exact check_twoB hh HGx.out HGy.out hE
                have hk0 := fun w hv hk hL => PfC.Ew w (pfA 2 x1.1 x1.2 x2.1 x2.2) 2 x1.1 x1.2 x2.1 x2.2 rfl (by have := HGx.out.len; omega) (by have := sig_len hh HGx.out; unfold maxLen; omega) (by have := HGy.out.len; unfold maxLen; omega) (by have := sig_len hh HGy.out; unfold maxLen; omega) (.slice (some ⟨GB, 0, none⟩) 1 1) [grH sd h] hL hv hk
                rw [show Bg [grH sd h] (pfOf 2 x1.1 x1.2 x2.1 x2.2) = E from hE.symm] at hk0
                obtain ⟨PR, hPR⟩ := nXe (pfA 2 x1.1 x1.2 x2.1 x2.2)
                rw [← hPR] at hk0
                have HPRb := lh (show Tryz.prog.built 24 [(0, .int .i64 2), (1, .string x1.1), (2, .string x1.2), (3, .string x2.1), (4, .string x2.2)] = some PR by rw [hPR]; kernel_rfl)
                obtain ⟨HCk, HTw, HTv, HEt⟩ := l4h hk0 htw htv hEt
                clear hk0 htw htv hE hEt hPR
                go_wp2_with fail
                refine (HSB.out _ (HV.out.below HBL3.out) (HH.out.below HBL3.out)).mono ?_
                rintro e wa ⟨rfl, hb⟩
                have HXa := tbB HX3 hb
                have HBLa := tbB HBL3 hb
                have HDa := tbB HD3 hb
                have HBXa := kpB hb HBX3
                clear hb
                go_wp2_with (first | (refine AC rfl _ _ _ rfl wa.heap.size FB rfl rfl _ _ (AL _ _) HFBS.out (by rw [← HFBN.out]; rfl) HFBO.out ?_) | fail)
                intro u1 hu1
                have hb : Below wa.heap.size wa u1 := by rw [hu1.out]; exact AQ bAx nR _
                have hy : u1.heap[wa.heap.size]? = some (.cells FB 29 (0, 0)) := by rw [hu1.out]; exact AR (AL _ _)
                clear hu1
                obtain ⟨wb, hww⟩ : ∃ w', w' = u1 := ⟨_, rfl⟩
                rw [← hww] at hb hy ⊢
                clear hww
                obtain ⟨BY, hB⟩ := nXe (wa.heap.size)
                rw [← hB] at hy ⊢
                clear hB
                have HBYb := lh hy
                clear hy
                have HXb := tbB HXa hb
                have HBLb := tbB HBLa hb
                have HDb := tbB HDa hb
                have HBXb := kpB hb HBXa
                clear hb
                clear d1 l1
                go_upto_region 25 with fail
                go_cut [25] from 123 to 157 (fun t wx => t = .bool tw ∧ wb = wx)
                case first =>
                 have hQA := Ae qA
                 have hQB := Ae qB
                 rw [HPA.out.len] at hQA
                 rw [HPB.out.len] at hQB
                 obtain ⟨QA, hqa⟩ := nXe ((byV qA).toArray)
                 obtain ⟨QB, hqb⟩ := nXe ((byV qB).toArray)
                 have HQAS := lh (show (Tryz.prog.info? 27).map (·.size) = some QA.size by rw [hqa, List.size_toArray, hQA]; kernel_rfl)
                 have HQBS := lh (show (Tryz.prog.info? 27).map (·.size) = some QB.size by rw [hqb, List.size_toArray, hQB]; kernel_rfl)
                 have hqq : ∀ w, (Op.equalIn 10000 27 (.agg QA) (.agg QB)).run Tryz.prog w = .ok (EqHash.hEq qA qB) w := by rw [hqa, hqb, EqEnt.pB_of HPA.out.len, EqEnt.pB_of HPB.out.len]; exact EqHash.eqHash qA qB
                 have hca' := HBXb.out
                 have hcb' := HBYb.out
                 have Hqa := lh (show ∀ (j : Nat) (u : Value), QA.toList[j]? = some u → wb.cell? ⟨BX, 3 + j, none⟩ = some u from fun j u hu => (AO hca').trans (HPA.out.cp j u (by rw [hqa] at hu; exact hu)))
                 have Hqb := lh (show ∀ (j : Nat) (u : Value), QB.toList[j]? = some u → wb.cell? ⟨BY, 3 + j, none⟩ = some u from fun j u hu => (AO hcb').trans (HPB.out.cp j u (by rw [hqb] at hu; exact hu)))
                 have u0 := (AO (j := 0) hca').trans HPA.out.c0
                 have u1 := (AO (j := 1) hca').trans HPA.out.c1
                 have u2 := (AO (j := 2) hca').trans HPA.out.c2
                 have v0 := (AO (j := 0) hcb').trans HPB.out.c0
                 have v1 := (AO (j := 1) hcb').trans HPB.out.c1
                 have v2 := (AO (j := 2) hcb').trans HPB.out.c2
                 have htv := HTv.out
                 obtain ⟨rr, hrr⟩ := nXe ((rA.toList == rB.toList))
                 have hrr2 := hrr.symm
                 rw [← hrr] at htv
                 have hGE : Go.Program.eqGuardType Tryz.prog Tryz.prog.depth 27 = false := by kernel_rfl
                 clear hca' hcb' hqa hqb hQA hQB hrr
                 cases t1 : (yA == 0)
                 ·skip
                  obtain rfl : tw = false := by rw [htv, t1]; rfl
                  clear htv
                  go_wp2_with fail
                  go_meet
                  exact ⟨rfl, rfl⟩
                 ·skip
                  cases t2 : (yB == 0)
                  ·skip
                   obtain rfl : tw = false := by rw [htv, t1, t2]; rfl
                   clear htv
                   go_wp2_with fail
                   go_meet
                   exact ⟨rfl, rfl⟩
                  ·skip
                   cases rr
                   ·skip
                    obtain rfl : tw = false := by rw [htv, t1, t2]; rfl
                    clear htv
                    go_wp2_with fail
                    go_meet
                    exact ⟨rfl, rfl⟩
                   ·skip
                    cases t4 : (eA == eB)
                    ·skip
                     obtain rfl : tw = false := by rw [htv, t1, t2, t4]; rfl
                     clear htv
                     go_wp2_with fail
                     go_meet
                     exact ⟨rfl, rfl⟩
                    ·skip
                     cases t5 : (iA == iB)
                     ·skip
                      obtain rfl : tw = false := by rw [htv, t1, t2, t4, t5]; rfl
                      clear htv
                      go_wp2_with fail
                      go_meet
                      exact ⟨rfl, rfl⟩
                     ·skip
                      cases t6 : EqHash.hEq qA qB
                      ·skip
                       obtain rfl : tw = true := by rw [htv, t1, t2, t4, t5, t6]; rfl
                       clear htv
                       go_wp2_with (first | (guard_target =~ wpList _ _ _ (Oper.mk _ (Op.load 27 _) _ _ _ _ :: _) _ _; refine HdL.DT (by kernel_rfl) 27 _ rfl BX 3 rfl QA Hqa.out underlying27 rfl HQAS.out ?_) | (guard_target =~ wpList _ _ _ (Oper.mk _ (Op.load 27 _) _ _ _ _ :: _) _ _; refine HdL.DT (by kernel_rfl) 27 _ rfl BY 3 rfl QB Hqb.out underlying27 rfl HQBS.out ?_) | fail)
                       go_meet
                       exact ⟨rfl, rfl⟩
                      ·skip
                       obtain rfl : tw = false := by rw [htv, t1, t2, t4, t5, t6]; rfl
                       clear htv
                       go_wp2_with (first | (guard_target =~ wpList _ _ _ (Oper.mk _ (Op.load 27 _) _ _ _ _ :: _) _ _; refine HdL.DT (by kernel_rfl) 27 _ rfl BX 3 rfl QA Hqa.out underlying27 rfl HQAS.out ?_) | (guard_target =~ wpList _ _ _ (Oper.mk _ (Op.load 27 _) _ _ _ _ :: _) _ _; refine HdL.DT (by kernel_rfl) 27 _ rfl BY 3 rfl QB Hqb.out underlying27 rfl HQBS.out ?_) | fail)
                       go_meet
                       exact ⟨rfl, rfl⟩
                case rest =>
                 obtain ⟨rfl, rfl⟩ := hcut
                 have hEt := HEt.out
                 have k1 := (HDb.out.cell (p := ⟨b2, o2 + k, none⟩) hb2).trans HC2.out
                 have k2 := (HDb.out.cell (p := ⟨b2, o2 + j, none⟩) hb2).trans HC4.out
                 have hk1 := k1
                 obtain ⟨HVb, HHb⟩ := l2h (HV.out.below HBLb.out) (HH.out.below HBLb.out)
                 have HSb : Hid (Sl wb (.slice (some ⟨GB, 0, none⟩) 1 1) 36 [grH sd h].length ([grH sd h].flatMap Gr'.cs)) := lh (grant_sl ((HDb.out.block _ (AB HGr.out)).trans HGr.out) HGAc.out)
                 have hb8 : Below w8.heap.size w8 wb := HXb.out
                 go_wp2_with fail
                 refine Uniform.Ak (S := (fun W => W.cell? ⟨b2, o2 + k, none⟩ = some (.string x1.2) ∧ W.cell? ⟨b2, o2 + j, none⟩ = some (.string x2.2) ∧ Sl W (.slice (some ⟨GB, 0, none⟩) 1 1) 36 [grH sd h].length ([grH sd h].flatMap Gr'.cs) ∧ Ag W ∧ Al W ∧ Below wd.heap.size wd W ∧ Below w.heap.size w W ∧ Below w8.heap.size w8 W)) (List.range 16) (by kernel_rfl) (by kernel_rfl) ⟨k1, k2, (HSb.out).below (Bl.drew (Below.refl _ _)), (HVb.out).below (Bl.drew (Below.refl _ _)), (HHb.out).below (Bl.drew (Below.refl _ _)), (HDb.out).drew, (HBLb.out).drew, (hb8).drew⟩ ?_
                 iterate 12
                  refine ⟨_, ?_, rfl, .inl ⟨by rfl, fun wq hSw => .value (w' := wq) ?_ hSw⟩, ?_⟩
                  rotate_left
                  ·obtain ⟨q0, q1, q2, q3, q4, q5, q6, q7⟩ := hSw
                   go_simp
                   rfl
                  simp only [Act.put, sxx]
                 refine ⟨_, _, rfl, Or.inl ⟨by rfl, fun wq hSw => Uniform.UStep.value (w' := wq) (PhA.exec_build 24 _ rfl PR (by first | exact HPRb.out | (go_simp; exact HPRb.out))) hSw⟩, ?_⟩
                 simp only [Act.put, sxx]
                 refine ⟨_, ?_, rfl, Or.inl ⟨by rfl, fun wq hSw => Uniform.UStep.call (w' := wq) ?_ ((HCk.out wq hSw.2.2.2.1 hSw.2.2.2.2.1 hSw.2.2.1).mono ?_)⟩, ?_⟩
                 rotate_left
                 ·obtain ⟨q0, q1, q2, q3, q4, q5, q6, q7⟩ := hSw
                  go_simp
                  all_goals (and_intros <;> rfl)
                 ·have hSk := hSw
                  obtain ⟨q0, q1, q2, q3, q4, q5, q6, q7⟩ := hSw
                  rintro e wq2 ⟨rfl, hbq⟩
                  refine ⟨?_, AA hbq q0, AA hbq q1, q2.below hbq, q3.below hbq, q4.below hbq, q5.trans (hbq.mono q5.size), q6.trans (hbq.mono q6.size), q7.trans (hbq.mono q7.size)⟩
                  rfl
                 iterate 2
                  simp only [Act.put, sxx]
                  refine ⟨_, ?_, rfl, .inl ⟨by rfl, fun wq hSw => .value (w' := wq) ?_ hSw⟩, ?_⟩
                  rotate_left
                  ·obtain ⟨q0, q1, q2, q3, q4, q5, q6, q7⟩ := hSw
                   go_simp
                   rfl
                 simp only [Act.put, sxx]
                 intro wz hSz
                 obtain ⟨_, _, _, _, _, z5, z6, z7⟩ := hSz
                 obtain ⟨HZ5, HZ6, HZ7⟩ := l3h z5 z6 z7
                 clear z5 z6 z7 k1 k2 hk1
                 cases c3
                 ·skip
                  go_wp2
                  go_roundw
                  case rel => exact ⟨false, j + 1, rfl, by go_num, by omega, (fun h => by cases h), HZ7.out⟩
                  case measure => simp [intOf]; omega
                 ·cases tw
                  ·skip
                   go_wp2
                   go_roundw
                   case rel => exact ⟨true, j + 1, rfl, by go_num, by omega, fun _ => ⟨(HC3.out (by simp)).1, row_succ HX2.out (HC3.out (by simp)).2 HTw.out⟩, HZ7.out⟩
                   case measure => simp [intOf]; omega
                  ·skip
                   go_wp2
                   go_roundw
                   case rel => exact ⟨false, j + 1, rfl, by go_num, by omega, (fun h => by cases h), HZ7.out⟩
                   case measure => simp [intOf]; omega
               ·skip
                obtain rfl : k = j := by omega
                go_wp2
                go_roundw
                case rel => exact ⟨c3, k + 1, rfl, by go_num, by omega, fun h => calm_succ HX.out (HC3.out h).1 (HC3.out h).2, HD3.out⟩
                case measure => simp [intOf]; omega
           ·skip
            obtain rfl : l = k := by omega
            obtain ⟨wo, rfl⟩ : ∃ x : World, x = wr := ⟨_, rfl⟩
            obtain ⟨PR, hPR⟩ := nXe (pfA 2 a x b y)
            have hPo := (HD2.out.block _ (AB HPr.out)).trans HPr.out
            have lPo := AB hPo
            have lPd := AB HPr.out
            obtain ⟨cy, fy⟩ := AJ hPo
            have k0 := (cy 0).trans (show p[0]? = some (.int .i64 n0) by rw [Hpe.out]; rfl)
            have f0 := fy 0
            have hset : p.setIfInBounds 0 (.int .i64 2) = PR := by rw [Hpe.out, hPR]; rfl
            obtain ⟨wA, hwA⟩ : ∃ x : World, x = wo.setCell ⟨w.heap.size + 1, 0, none⟩ (.int .i64 2) := ⟨_, rfl⟩
            have HPA := lh (show wA.heap[w.heap.size + 1]? = some (.cells PR 24 (0, 0)) by rw [hwA, ← hset]; exact heap_setCell_same hPo _)
            have HEA := lh (show Ext (fun k => k = w.heap.size + 1) wo wA by rw [hwA]; exact Ext.set1 _ _ _ _)
            have HBLA := lh (show Below w.heap.size w wA by rw [hwA]; exact HBL2.out.setCell (p := ⟨w.heap.size + 1, 0, none⟩) (by show w.heap.size ≤ w.heap.size + 1; omega) _)
            have HWA := lh hwA
            have HGA2 := lh (HEA.out.CS ((HD2.out.block _ (AB HGr.out)).trans HGr.out) (fun h => by omega))
            have HGA3 : Hid (Sl wA (.slice (some ⟨GB, 0, none⟩) 1 1) 36 [grH sd h].length ([grH sd h].flatMap Gr'.cs)) := lh (grant_sl HGA2.out HGAc.out)
            have CA2 := lh (fun (k : Nat) (z : ByteArray × ByteArray) (hz : L[k]? = some z) => (show aa = some ⟨b1, o1, none⟩ ∧ b1 < wA.heap.size ∧ wA.cell? ⟨b1, o1 + k, none⟩ = some (.string z.1) from ⟨(CA'.out k z hz).1, Nat.lt_of_lt_of_le (CA'.out k z hz).2.2.1 (Nat.le_trans HD2.out.size HEA.out.size), HEA.out.cellOf (p := ⟨b1, o1 + k, none⟩) ((HD2.out.cell (p := ⟨b1, o1 + k, none⟩) (CA'.out k z hz).2.2.1).trans (CA'.out k z hz).2.2.2) (fun h => by have := (CA'.out k z hz).2.1; have h : b1 = w.heap.size + 1 := h; omega)⟩))
            have HPRS := lh (show (Tryz.prog.info? 24).map (·.size) = some PR.size by rw [hPR]; kernel_rfl)
            have q1 : PR[1]? = some (.string a) := by rw [hPR]; rfl
            have q3 : PR[3]? = some (.string b) := by rw [hPR]; rfl
            obtain ⟨Hq1, Hq3⟩ := l2h q1 q3
            obtain ⟨E, hE⟩ := nXe (Bg [grH sd h] (pfO 2 a x b y))
            have hk0 := fun w hv hk hL => PfC.Ew w (pfA 2 a x b y) 2 a x b y rfl ha hx hb' hy (.slice (some ⟨GB, 0, none⟩) 1 1) [grH sd h] hL hv hk
            rw [show Bg [grH sd h] (pfOf 2 a x b y) = E from hE.symm, ← hPR] at hk0
            obtain ⟨HCk, HE⟩ := l2h hk0 hE
            clear hk0 hE hwA hset hPR cy fy q1 q3 hPo lPo lPd hlt hk CA' CB' HGA2
            cases c
            ·skip
             go_wp2
             go_ret
             exact ⟨rfl, by rw [← HWA.out]; exact HBLA.out⟩
            ·skip
             go_wp2_with (first | (rw [← HWA.out]; refine WireT.Ad (by kernel_rfl) _ _ rfl (w.heap.size + 1) rfl _ PR (0, 0) _ HPA.out underlying24 rfl HPRS.out ?_) | (refine WireT.Ad (by kernel_rfl) _ _ rfl (w.heap.size + 1) rfl _ PR (0, 0) _ HPA.out underlying24 rfl HPRS.out ?_) | fail)
             refine (HCk.out wA (HV.out.below HBLA.out) (HH.out.below HBLA.out) HGA3.out).mono ?_
             rintro e wB ⟨rfl, hb⟩
             have HBLB := tbB HBLA hb
             have HPB := kpB hb HPA
             have CB2 := lh (fun (k : Nat) (z : ByteArray × ByteArray) (hz : L[k]? = some z) => (show aa = some ⟨b1, o1, none⟩ ∧ b1 < wB.heap.size ∧ wB.cell? ⟨b1, o1 + k, none⟩ = some (.string z.1) from ⟨(CA2.out k z hz).1, Nat.lt_of_lt_of_le (CA2.out k z hz).2.1 hb.size, (hb.cell (p := ⟨b1, o1 + k, none⟩) (CA2.out k z hz).2.1).trans (CA2.out k z hz).2.2⟩))
             clear hb k0 f0 CA2
             have hE2 : E = 0 ∨ (E == 0) = false := by
              by_cases h0 : E = 0
              ·exact .inl h0
              ·exact .inr (by simpa using h0)
             rcases hE2 with rfl | hE2
             rotate_left
             ·go_wp2
              go_ret
              exact ⟨rfl, HBLB.out⟩
             go_wp2
             go_loopw [26, 27, 191] (fun qa qb i wr => wr = wB ∧ ∃ (ya yb : Bool) (k : Nat), qa = .bool ya ∧ qb = .bool yb ∧ i = .int .i64 k ∧ k ≤ l ∧ (ya = true → ∃ u ∈ L, u.1 = a) ∧ (yb = true → ∃ u ∈ L, u.1 = b)) (fun _ _ i _ => l - (intOf i).toNat)
             case atStart => exact ⟨rfl, false, false, 0, rfl, rfl, rfl, by omega, fun h => (by cases h), fun h => (by cases h)⟩
             case round =>
              obtain ⟨rfl, ya, yb, k, rfl, rfl, rfl, hk, hA, hB⟩ := hrel
              by_cases hlt : k < l
              ·skip
               obtain ⟨z, hz⟩ : ∃ x, L[k]? = some x := ⟨_, List.getElem?_eq_getElem (by rw [← HL.out]; exact hlt)⟩
               obtain ⟨rfl, l1, d1⟩ := CB2.out k z hz
               have hzm := List.mem_of_getElem? hz
               obtain ⟨cy, fy⟩ := AJ HPB.out
               have j1 := (cy 1).trans Hq1.out
               have j3 := (cy 3).trans Hq3.out
               clear cy fy
               obtain ⟨sa, hsa⟩ := nXe ((z.1.toList == a.toList))
               obtain ⟨sb, hsb⟩ := nXe ((z.1.toList == b.toList))
               have hA2 : sa = true → ∃ u ∈ L, u.1 = a := fun h => ⟨z, hzm, by
                by_cases e : z.1 = a
                ·exact e
                ·rw [h, EH e] at hsa
                 cases hsa⟩
               have hB2 : sb = true → ∃ u ∈ L, u.1 = b := fun h => ⟨z, hzm, by
                by_cases e : z.1 = b
                ·exact e
                ·rw [h, EH e] at hsb
                 cases hsb⟩
               have hsa2 := hsa.symm
               have hsb2 := hsb.symm
               obtain ⟨HA, HB, HA2, HB2⟩ := l4h hA hB hA2 hB2
               clear hsa hsb hA hB hA2 hB2 hz hzm
               cases ya
               ·cases yb
                ·skip
                 go_wp2
                 go_roundw
                 case rel => exact ⟨by trivial, sa, sb, k + 1, rfl, rfl, by go_num, by omega, HA2.out, HB2.out⟩
                 case measure => simp [intOf]; omega
                ·skip
                 go_wp2
                 go_roundw
                 case rel => exact ⟨by trivial, sa, true, k + 1, rfl, rfl, by go_num, by omega, HA2.out, HB.out⟩
                 case measure => simp [intOf]; omega
               ·cases yb
                ·skip
                 go_wp2
                 go_roundw
                 case rel => exact ⟨by trivial, true, sb, k + 1, rfl, rfl, by go_num, by omega, HA.out, HB2.out⟩
                 case measure => simp [intOf]; omega
                ·skip
                 go_wp2
                 go_roundw
                 case rel => exact ⟨by trivial, true, true, k + 1, rfl, rfl, by go_num, by omega, HA.out, HB.out⟩
                 case measure => simp [intOf]; omega
              ·skip
               obtain rfl : l = k := by omega
               cases ya
               ·skip
                go_wp2
                go_ret
                exact ⟨rfl, HBLB.out⟩
               ·cases yb
                ·skip
                 go_wp2
                 go_ret
                 exact ⟨rfl, HBLB.out⟩
                ·exact (none_both (by rw [← HL.out]; exact HC.out (by simp)) HE.out.symm (hA rfl) (hB rfl)).elim
  ·skip
   have hor : (3 < h) ∨ (h ≤ 3 ∧ 8 < n) := by omega
   rcases hor with h3 | ⟨h3, h8⟩
   ·skip
    have hd3 : decide ((3 : Int) < (h : Int)) = true := dT (by omega)
    have hd4 : decide (3 < h) = true := dT (by omega)
    go_enter func5, ntmps5
    go_wp2_with fail
    rw [← HW0.out]
    refine (PfQ.Ej w0 (HV.out.below HBL0.out) (HH.out.below HBL0.out)).mono ?_
    rintro e' w1 ⟨rfl, hb⟩
    have HK1 := kpB hb HK0
    have HP1 := kpB hb HP0
    have HBL1 := tbB HBL0 hb
    clear hb
    go_wp2_with (first | (refine wpList_load_row rfl _ _ rfl w.heap.size rfl _ K (0, 0) _ HK1.out underlying40 rfl HKS.out ?_) | fail)
    refine (HM.out w1 (HH.out.below HBL1.out)).mono ?_
    rintro e' w3 ⟨R, u, rfl, hR, hb⟩
    have HK3 := kpB hb HK1
    have HP3 := kpB hb HP1
    have HBL3 := tbB HBL1 hb
    have HR := lh hR
    have hge : w.heap.size + 1 < R := by
     have h1 := AB HP1.out
     have h2 := hR.ge
     omega
    clear hb hR HM
    have c1 : w3.cell? ⟨w.heap.size, 1, none⟩ = some (.int .i64 (h : Int)) := (AO HK3.out).trans HP1c.out
    go_wp2_with fail
    go_ret
    exact ⟨rfl, HBL3.out⟩
   ·skip
    have hd3 : decide ((3 : Int) < (h : Int)) = false := dF (by omega)
    have hd4 : decide (3 < h) = false := dF (by omega)
    have hd5 : decide ((8 : Int) < (n : Int)) = true := dT (by omega)
    have hd6 : decide (8 < n) = true := dT (by omega)
    have hn4 : ¬ 3 < h := by omega
    go_enter func5, ntmps5
    go_wp2_with fail
    rw [← HW0.out]
    refine (PfQ.Ej w0 (HV.out.below HBL0.out) (HH.out.below HBL0.out)).mono ?_
    rintro e' w1 ⟨rfl, hb⟩
    have HK1 := kpB hb HK0
    have HP1 := kpB hb HP0
    have HBL1 := tbB HBL0 hb
    clear hb
    go_wp2_with (first | (refine wpList_load_row rfl _ _ rfl w.heap.size rfl _ K (0, 0) _ HK1.out underlying40 rfl HKS.out ?_) | fail)
    refine (HM.out w1 (HH.out.below HBL1.out)).mono ?_
    rintro e' w3 ⟨R, u, rfl, hR, hb⟩
    have HK3 := kpB hb HK1
    have HP3 := kpB hb HP1
    have HBL3 := tbB HBL1 hb
    have HR := lh hR
    have hge : w.heap.size + 1 < R := by
     have h1 := AB HP1.out
     have h2 := hR.ge
     omega
    clear hb hR HM
    have c1 : w3.cell? ⟨w.heap.size, 1, none⟩ = some (.int .i64 (h : Int)) := (AO HK3.out).trans HP1c.out
    go_wp2_with fail
    go_ret
    exact ⟨rfl, HBL3.out⟩
end PhN
end Go.Proofs.YtadofbbpfgmclaaGreatDoor
