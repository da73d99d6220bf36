/-
  WHAT IS PROVED: contracts of functions, and plain laws. Condition: what each theorem names.
-/
import Derived.Test.YtadofbbpfgmclaaGreatDoorS0
import Derived.Test.YtadofbbpfgmclaaGreatDoorZTBH10
import Derived.Test.YtadofbbpfgmclaaGreatDoorZTBH11
set_option linter.unusedVariables false
set_option linter.unusedSimpArgs false
set_option maxRecDepth 100000
set_option maxHeartbeats 4000000
namespace Go.Proofs.YtadofbbpfgmclaaGreatDoor
open Go.Proofs.Tryz hiding parts
namespace EntX
open Go Go.RowKit Go.Shelf OctetS IdentS EntS OctP OctG IdentP EntP EventC EventP ShaA Steps KeyA TreeA
theorem text_len {t : List UInt8} (h : t.length ≤ 8192) : (OctetS.text t).length ≤ 8194 := by
 unfold OctetS.text
 have := OctetS.CF h
 rw [List.length_append]
 omega
theorem F6 : ∀ (l : List (List UInt8)), (∀ t ∈ l, t.length ≤ 8192) → (l.flatMap OctetS.text).length ≤ 8194 * l.length
 | [], _ => by simp
 | t :: r, h => by
   have h1 := text_len (h t (by simp))
   have h2 := F6 r (fun x hx => h x (by simp [hx]))
   simp only [List.flatMap_cons, List.length_append, List.length_cons]
   omega
theorem ent_len {e : Ent} (h : Right e) (hp : e.prev.length = 32) : (EntS.text e).length ≤ 100000 := by
 obtain ⟨h1, h2⟩ := Ca.1 (h.fits hp)
 have h3 := F6 _ h2
 have h4 : (EntS.parts e).length = 6 := rfl
 have h5 := OctetS.CF (n := 6) (by omega)
 unfold EntS.text OctetS.list
 rw [List.length_append, h4]
 rw [h4] at h3
 omega
def sumH (t : List UInt8) : H32 := KeyJ.mk32 (ShaS.sum t) (ShaS.Bf t)
theorem sumH_A (t : List UInt8) : (sumH t).A = (byV (ShaS.sum t)).toArray := by
 unfold sumH
 exact KeyJ.mk32_A _ _
def sumE (e : Ent) : H32 := if A9 e = true then sumH (EntS.text e) else CV
theorem Eo (w : World) (p : Array Value) (r : ByteArray) (ep ix : Int) (pv : List UInt8) (e s : ByteArray) (hp : EntP p r ep ix pv e s) (hv : Ag w) (hk : Al w) (hr : r.size ≤ 140737488351232) (he : e.size ≤ maxLen) (hs : s.size ≤ maxLen) :
 Calls Tryz.prog 50 #[.agg p] w (KeyA.RB (.tuple #[.agg (sumE (Bc r ep ix pv e s)).A, .int .i64 (Ci (EntS.A9 (Bc r ep ix pv e s)))]) w) := by
 have hT := fun w hv => Cs w p r ep ix pv e s hp hv hr he hs
 unfold EntS.textOf at hT
 unfold sumE
 have hps := hp.size
 have hpi : (Tryz.prog.info? 51).map (·.size) = some 37 := by kernel_rfl
 rw [← hps] at hpi
 have HI := lh hpi
 obtain ⟨Z, hZ⟩ := nXe (CV.A)
 have HLIT : Hid (zq0 Z) := lh (by rw [hZ]; unfold zq0; kernel_rfl)
 have HZN : Hid (Z.size = 32) := lh (by rw [hZ]; kernel_rfl)
 have HZS : Hid ((Tryz.prog.info? 27).map (·.size) = some Z.size) := lh (by rw [hZ]; exact H32.info _)
 have HZO : Hid (Z.all (·.oneCell') = true) := lh (by rw [hZ]; exact H32.one _)
 obtain ⟨w0, hw0⟩ := nXe ((w.alloc (.cells p 51)).alloc (.cells Z 27))
 have hb0 : Below w.heap.size w w0 := by rw [hw0]; exact ((Below.refl _ w).alloc nR _).alloc (by simp) _
 have HX0 := lh (show w0.heap[w.heap.size]? = some (.cells p 51 (0, 0)) by rw [hw0]; exact Ao (AL _ _) _)
 have HZ0 := lh (show w0.heap[w.heap.size + 1]? = some (.cells Z 27 (0, 0)) by rw [hw0]; exact Ah _ (by simp))
 obtain ⟨HBL0, HW0, HV0, HK0⟩ := l4h hb0 hw0 (hv.below hb0) (hk.below hb0)
 cases hchk : EntS.A9 (Bc r ep ix pv e s)
 ·skip
  rw [hchk] at hT
  rw [if_neg (by simp), ← hZ]
  have HT := lh hT
  clear hT hchk hr he hs hp hb0 hv hk hw0 hZ hpi hps
  go_enter func50, ntmps50
  go_wp2_with (first | (rw [HLIT.out, ← HW0.out]; refine wpList_load_row rfl _ _ rfl w.heap.size rfl _ p (0, 0) _ HX0.out underlying51 rfl HI.out ?_) | fail)
  refine (HT.out w0 HV0.out).mono ?_
  rintro e' w1 ⟨rfl, hb⟩
  have HBL1 := tbB HBL0 hb
  have HZ1 := kpB hb HZ0
  clear hb
  unfold Ci
  go_wp2_with (first | (refine AC rfl _ _ _ rfl (w.heap.size + 1) Z rfl (by rw [← HLIT.out]; rfl) _ _ HZ1.out HZS.out rfl HZO.out ?_) | fail)
  intro wf hwf
  go_wp2
  refine bodyPost_ret (v := .tuple #[.agg Z, .int .i64 2]) (WireT.AV rfl _ _ (w.heap.size + 1) 27 Z (0, 0) _ rfl (by rw [hwf.out]; exact AR HZ1.out) underlying27 rfl HZS.out rfl) rfl ⟨rfl, by rw [hwf.out]; exact AQ HBL1.out (by omega) _⟩
 ·skip
  rw [hchk] at hT
  rw [if_pos rfl] at hT ⊢
  have hR := EntS.BV.1 hchk
  have hlen := ent_len hR hp.len
  obtain ⟨t, ht⟩ := nXe (EntS.text (Bc r ep ix pv e s))
  rw [← ht] at hT hlen ⊢
  obtain ⟨R, hRe⟩ := nXe ((sumH t).A)
  have HRS : Hid ((Tryz.prog.info? 27).map (·.size) = some R.size) := lh (by rw [hRe]; exact H32.info _)
  have HRN : Hid (Z.size = R.size) := lh (by rw [hRe, H32.size]; exact HZN.out)
  have HRO : Hid (R.all (·.oneCell') = true) := lh (by rw [hRe]; exact H32.one _)
  obtain ⟨Tb, hTb⟩ := nXe (bsOf t)
  rw [← hTb] at hT
  have hS := fun w hk => ShaM.Eo w Tb (by rw [hTb, AY]; omega) hk
  have hRR : (byV (ShaS.sum (bl Tb))).toArray = R := by rw [hTb, AU, hRe, sumH_A]
  rw [hRR] at hS
  rw [← hRe]
  obtain ⟨HT, HS⟩ := l2h hT hS
  clear hT hS hRR hRe hTb ht hlen hR hchk hr he hs hp hb0 hv hk hw0 hZ hpi hps
  go_enter func50, ntmps50
  go_wp2_with (first | (rw [HLIT.out, ← HW0.out]; refine wpList_load_row rfl _ _ rfl w.heap.size rfl _ p (0, 0) _ HX0.out underlying51 rfl HI.out ?_) | fail)
  refine (HT.out w0 HV0.out).mono ?_
  rintro e' w1 ⟨rfl, hb⟩
  have HBL1 := tbB HBL0 hb
  have HZ1 := kpB hb HZ0
  have HK1 := lh (HK0.out.below hb)
  clear hb
  unfold Ci
  go_wp2_with fail
  refine (HS.out w1 HK1.out).mono ?_
  rintro e' w2 ⟨rfl, hb⟩
  have HBL2 := tbB HBL1 hb
  have HZ2 := kpB hb HZ1
  clear hb
  go_wp2_with (first | (refine AC rfl _ _ _ rfl (w.heap.size + 1) R rfl rfl _ _ HZ2.out HRS.out HRN.out HRO.out ?_) | fail)
  intro wf hwf
  go_wp2
  refine bodyPost_ret (v := .tuple #[.agg R, .int .i64 0]) (WireT.AV rfl _ _ (w.heap.size + 1) 27 R (0, 0) _ rfl (by rw [hwf.out]; exact AR HZ2.out) underlying27 rfl HRS.out rfl) rfl ⟨rfl, by rw [hwf.out]; exact AQ HBL2.out (by omega) _⟩
end EntX
namespace EntW
open Go Go.RowKit Go.Shelf OctetS IdentS EntS OctP OctG IdentP EntP EventC EventP ShaA Steps KeyA KeyS KeyK TreeA
theorem F3 (w : World) (g : Nat) (cs : Array Value) : w.grownBy (w.setRow g cs) (some g) :=
 ⟨rfl, rfl, rfl, by simp [World.setRow], fun k _ hk => setRow_other w g k cs (fun e => hk (by rw [e]))⟩
theorem entA_set36 (r : ByteArray) (ep ix : Int) (pv : List UInt8) (e s t : ByteArray) (hp : pv.length = 32) : (entA r ep ix pv e s).setIfInBounds 36 (.string t) = entA r ep ix pv e t := by
 have hl : ([.string r, .int .i64 ep, .int .i64 ix] ++ byV pv ++ [.string e] : List Value).length = 36 := by simp [Ae, hp]
 have h1 : ∀ u : ByteArray, entA r ep ix pv e u = (([.string r, .int .i64 ep, .int .i64 ix] ++ byV pv ++ [.string e]) ++ [.string u] : List Value).toArray := fun u => by unfold entA; simp
 rw [h1 s, h1 t]
 generalize ([.string r, .int .i64 ep, .int .i64 ix] ++ byV pv ++ [.string e] : List Value) = L at hl ⊢
 simp only [List.setIfInBounds_toArray]
 congr 1
 rw [← hl, List.set_append_right _ _ nR, Nat.sub_self]
 rfl
theorem Fb (w : World) (R : Nat) (sd : ByteArray) (h nx : Nat) (v : Value) (x : H32) (hsd : sd.size ≤ 64) (hh : h ≤ 7) (hn : nx < 2 ^ h) (hr0 : w.heap[R]? = some (.cells (Bu sd h nx v x) 71 (0, 0)))
 (hv0 : Sl w v 32 (2 ^ h) ((Bv (bl sd) (2 ^ h)).flatMap H32.cs)) (hvb : ∀ k, v.ownBlock = some k → k < w.heap.size) (hk : Al w)
 (p : Array Value) (r : ByteArray) (ep ix : Int) (pv : List UInt8) (e s : ByteArray) (hp : EntP p r ep ix pv e s) (hv : Ag w) (hr : r.size ≤ 140737488351232) (he : e.size ≤ maxLen) (hs : s.size ≤ maxLen) (hchk : EntS.A9 (Bc r ep ix pv e s) = true) :
 Calls Tryz.prog 18 #[.pointer (some ⟨R, 0, none⟩), .agg p] w fun e' w' => e' = .returned (.tuple #[.agg (entA r ep ix pv e (bsOf (Di (bl sd) h nx (EntS.text (Bc r ep ix pv e s))))), .int .i64 0]) ∧
  w'.heap[R]? = some (.cells (Bu sd h (nx + 1 : Nat) v x) 71 (0, 0)) ∧ Ext (fun k => k = R) w w' := by
 have hT := fun w hv => Cs w p r ep ix pv e s hp hv hr he hs
 unfold EntS.textOf at hT
 rw [hchk] at hT
 rw [if_pos rfl] at hT
 have hR := EntS.BV.1 hchk
 have hlen := EntX.ent_len hR hp.len
 have hps := hp.size
 have H36 := lh hp.c36
 have hpi : (Tryz.prog.info? 51).map (·.size) = some 37 := by kernel_rfl
 obtain ⟨Tb, hT2⟩ := nXe (bsOf (EntS.text (Bc r ep ix pv e s)))
 have hTs : Tb.size ≤ 140737488355328 := by rw [hT2, AY]; omega
 have hTb : bl Tb = EntS.text (Bc r ep ix pv e s) := by rw [hT2, AU]
 rw [← hT2] at hT
 rw [← hTb]
 have hS := fun w' (hb : Below w.heap.size w w') => KeyM.Fb w' R sd Tb h nx v x hsd hTs hh hn ((hb.block _ (AB hr0)).trans hr0) (hv0.below hb) (hk.below hb)
 obtain ⟨G, hG⟩ := nXe (bsOf (Di (bl sd) h nx (bl Tb)))
 rw [← hG] at hS ⊢
 obtain ⟨E, hE⟩ := nXe (entA r ep ix pv e G)
 have hEp : EntP E r ep ix pv e G := ⟨hE, hp.len⟩
 have hset : p.setIfInBounds 36 (.string G) = E := by rw [hp.eq, hE, entA_set36 _ _ _ _ _ _ _ hp.len]
 have HES : Hid ((Tryz.prog.info? 51).map (·.size) = some E.size) := lh (by rw [hEp.size]; exact hpi)
 have HEN : Hid (37 = E.size) := lh hEp.size.symm
 have HEO : Hid (E.all (·.oneCell') = true) := lh (by rw [hE]; exact WireT.BM _ _ _ _ _ _)
 rw [← hE]
 obtain ⟨Z, hZ⟩ := nXe (zl1)
 have HLIT : Hid (zq1 Z) := lh hZ.symm
 have HZN : Hid (Z.size = 37) := lh (by rw [hZ]; rfl)
 have hlR := AB hr0
 obtain ⟨w0, hw0⟩ := nXe ((w.alloc (.cells p 51)).alloc (.cells Z 51))
 have hb0 : Below w.heap.size w w0 := by rw [hw0]; exact ((Below.refl _ w).alloc nR _).alloc (by simp) _
 have HX0 := lh (show w0.heap[w.heap.size]? = some (.cells p 51 (0, 0)) by rw [hw0]; exact Ao (AL _ _) _)
 have HZ0 := lh (show w0.heap[w.heap.size + 1]? = some (.cells Z 51 (0, 0)) by rw [hw0]; exact Ah _ (by simp))
 obtain ⟨HBL0, HW0, HV0, HT, HS⟩ := l5h hb0 hw0 (hv.below hb0) hT hS
 have HI := lh (show (Tryz.prog.info? 51).map (·.size) = some p.size by rw [hps]; exact hpi)
 have Hset := lh hset
 clear hT hS hT2 hchk hR hr he hs hp hb0 hv hw0 hpi hps hG hE hEp hset hTb hTs hlen hv0 hr0 hk hvb hZ
 go_enter func18, ntmps18
 go_wp2_with (first | (rw [HLIT.out, ← HW0.out]; refine wpList_load_row rfl _ _ rfl w.heap.size rfl _ p (0, 0) _ HX0.out underlying51 rfl HI.out ?_) | fail)
 refine (HT.out w0 HV0.out).mono ?_
 rintro e' w1 ⟨rfl, hb⟩
 have HBL1 := tbB HBL0 hb
 have HX1 := kpB hb HX0
 have HZ1 := kpB hb HZ0
 clear hb
 unfold Ci
 go_wp2_with fail
 refine (HS.out w1 HBL1.out).mono ?_
 rintro e' w2 ⟨rfl, hr2, hE2⟩
 have hx2 := hE2.CS HX1.out (fun h => by omega)
 have HX2 := lh hx2
 have HZ2 := lh (hE2.CS HZ1.out (fun h => by omega))
 have HR2 := lh hr2
 have HE2 := lh ((Ext.of_below (S := fun k => k = R) HBL1.out).trans hE2)
 have c36 : w2.cell? ⟨w.heap.size, 36, none⟩ = some (.string s) := by rw [AO hx2]; exact H36.out
 have f36 : w2.frozen? ⟨w.heap.size, 36, none⟩ = false := BK hx2
 have HX3 : Hid ((w2.setCell ⟨w.heap.size, 36, none⟩ (.string G)).heap[w.heap.size]? = some (.cells E 51 (0, 0))) := lh (by rw [← Hset.out]; exact heap_setCell_same hx2 _)
 have HZ3 : Hid ((w2.setCell ⟨w.heap.size, 36, none⟩ (.string G)).heap[w.heap.size + 1]? = some (.cells Z 51 (0, 0))) := lh ((AX _ (by omega)).trans HZ2.out)
 have HR3 : Hid ((w2.setCell ⟨w.heap.size, 36, none⟩ (.string G)).heap[R]? = some (.cells (Bu sd h (nx + 1 : Nat) v x) 71 (0, 0))) := lh ((AX _ (by omega)).trans HR2.out)
 have HE3 : Hid (Ext (fun k => k = R) w (w2.setCell ⟨w.heap.size, 36, none⟩ (.string G))) := lh (HE2.out.setCell (p := ⟨w.heap.size, 36, none⟩) (.inr nR) _)
 clear hr2 hE2 hx2
 go_wp2_with (first | (refine wpList_load_row rfl _ _ rfl w.heap.size rfl _ E (0, 0) _ HX3.out underlying51 rfl HES.out ?_) | (refine AC rfl _ _ _ rfl (w.heap.size + 1) E rfl rfl _ _ HZ3.out HES.out (by rw [HZN.out]; exact HEN.out) HEO.out ?_) | fail)
 intro wf hwf
 go_wp2
 refine bodyPost_ret (v := .tuple #[.agg E, .int .i64 0]) (WireT.AV rfl _ _ (w.heap.size + 1) 51 E (0, 0) _ rfl (by rw [hwf.out]; exact AR HZ3.out) underlying51 rfl HES.out rfl) rfl ⟨rfl, ?_, ?_⟩
 ·rw [hwf.out, CO _ (by omega)]
  exact HR3.out
 ·rw [hwf.out]
  exact HE3.out.grown (row := some (w.heap.size + 1)) (F3 _ _ _) (fun k hk => by cases hk; exact .inr (by omega))
end EntW
namespace EqEnt
open Go Go.RowKit ShaB EqHash EntP OctP
theorem eqHashD (d : Nat) (a b : List UInt8) (w : World) : (Op.equalIn (d + 2) 27 (.agg (pB 32 a)) (.agg (pB 32 b))).run Tryz.prog w = .ok (hEq a b) w := by
 have hu : Tryz.prog.underlying 27 = some (.array 32 5) := by kernel_rfl
 have hc : Tryz.prog.cellsOf 5 = 1 := by kernel_rfl
 have hi : ∃ i, Tryz.prog.info? 5 = some i := info_of_underlying (show Tryz.prog.underlying 5 = some (.int .u8) by kernel_rfl)
 obtain ⟨i, hi⟩ := hi
 rw [show d + 2 = (d + 1) + 1 from rfl, run_equalIn_array w (d + 1) _ _ hu hi, hc]
 exact items w d a b (List.range 32) (fun i hi => by simpa using hi)
theorem pB_of {l : List UInt8} (h : l.length = 32) : (byV l).toArray = pB 32 l := by
 unfold pB
 simp [h]
theorem part_hash (w : World) (xs : Array Value) (off : Nat) : (part 27 xs off).run Tryz.prog w = .ok (.agg (xs.extract off (off + 32))) w := by
 have hu : Tryz.prog.underlying 27 = some (.array 32 5) := by kernel_rfl
 obtain ⟨i, hi⟩ := info_of_underlying (P := Tryz.prog) hu
 have hc : Tryz.prog.cellsOf 27 = 32 := by kernel_rfl
 have hs := run_sizeOf w hi
 rw [hc] at hs
 simp [part, isAgg, run_underlying hu, Sem.run_bind, hs]
theorem F7 {P : Program} {w : World} {d : Nat} {xs ys : Array Value} {f : Field} {fs : List Field} {x y : Value} {r s : Bool} (hn : f.name ≠ "_") (h1 : (part f.type xs f.offset).run P w = .ok x w) (h2 : (part f.type ys f.offset).run P w = .ok y w)
 (h3 : (Op.equalIn d f.type x y).run P w = .ok r w) (h4 : (Op.eqFields d xs ys fs).run P w = .ok s w) : (Op.eqFields d xs ys (f :: fs)).run P w = .ok (r && s) w := by
 unfold Op.eqFields
 rw [if_pos hn]
 simp only [Sem.run_bind, h1, h2, h3, Result.andThen_ok]
 cases r
 ·simp
 ·simpa using h4
theorem eqF_nil {P : Program} {w : World} {d : Nat} {xs ys : Array Value} : (Op.eqFields d xs ys []).run P w = .ok true w := by simp [Op.eqFields]
end EqEnt
namespace EntK
open OctetS IdentS EntS EntB KeyS KeyN NSha
set_option maxRecDepth 100000
def z32 : List UInt8 := List.replicate 32 0
def rm : List UInt8 := [33, 104, 97, 108, 108, 58, 48]
def T5 : List UInt8 := [6, 5, 101, 110, 116, 114, 121, 7, 33, 104, 97, 108, 108, 58, 48, 1, 1, 1, 5, 32, 0, 0, 0, 0, 0, 0, 0, 0, 0, 0, 0, 0, 0, 0, 0, 0, 0, 0, 0, 0, 0, 0, 0, 0, 0, 0, 0, 0, 0, 0, 0, 0, 1, 120]
def G : List UInt8 := Di [115] 1 0 T5
theorem room0 : DU rm = true := by decide +kernel
end EntK
namespace EntL
open Go Go.RowKit Go.Shelf OctetS IdentS EntS OctG IdentP EntP EventC ShaA Steps KeyA KeyS KeyI KeyK TreeA EntK EntB BookA
def rB : ByteArray := bsOf rm
def xB : ByteArray := bsOf [120]
def nB : ByteArray := bsOf []
def sS : ByteArray := ⟨#[115]⟩
theorem sS_bl : bl sS = [115] := rfl
theorem rB_z : rB.size ≤ 140737488351232 := by decide +kernel
theorem xB_z : xB.size ≤ maxLen := by decide +kernel
theorem nB_z : nB.size ≤ maxLen := by decide +kernel
theorem Make_s (w : World) (hk : Al w) : Calls Tryz.prog 15 #[.agg #[.string ⟨#[115]⟩, .int .i64 1, .int .i64 0]] w fun e w' => ∃ R v, e = .returned (.tuple #[.pointer (some ⟨R, 0, none⟩), .int .i64 0]) ∧ RingAt w w' R sS 1 0 v ∧ Below w.heap.size w w' :=
 Make_yes w sS 1 0 (by decide) (by decide) (by decide) (by decide) hk
def gr : Gr' := ⟨2, 0, 9, 1, D5 [115] 1⟩
theorem found_yes (ix : Int) (h0 : 0 ≤ ix) (h9 : ix ≤ 9) : Bt gr 2 ix = true := by
 unfold Bt gr
 simp [h0, h9]
theorem found_no (ix : Int) : Bt gr 1 ix = false := by
 unfold Bt gr
 simp
theorem byV_bN (l : List UInt8) : byV l = (NSha.bN l).map fun n => .int .u8 (n : Int) := by
 unfold byV NSha.bN
 rw [List.map_map]
 rfl
def rootL : Array Value := ([1, 182, 6, 211, 135, 147, 53, 5, 245, 241, 205, 252, 197, 223, 231, 32, 130, 117, 182, 46, 173, 16, 191, 101, 209, 159, 7, 102, 245, 140, 192, 251].map fun n : Nat => Value.int .u8 (n : Int)).toArray
theorem root_A : (D5 [115] 1).A = rootL := by
 unfold H32.A rootL
 rw [rootK_l, byV_bN, KeyN.root_s]
end EntL
namespace EntQ
open Go Go.RowKit Go.Shelf OctetS IdentS EntS OctG IdentP EntP EventC ShaA Steps KeyA KeyS KeyI KeyK TreeA EntK EntB BookA EntL KeyG
attribute [-go_sem] run_equalIn_agg
theorem Cg {P : Program} {ops : Array Oper} {rest : List Oper} {o : Oper} {a : Act} {w : World} {Q : Exit → Act → World → Prop} (hg : o.guard = none) (t : TypeId) (parts : Array (Nat × Operand)) (ho : o.op = .build t parts) (cells : Array Value)
 (hb : P.built t (parts.map fun (i, x) => (i, a.eval x)).toList = some cells) (h : wpList P ops Q rest (a.put o.dst (.agg cells)) w) : wpList P ops Q (o :: rest) a w :=
 wpList_build hg t parts ho (by rw [hb]; rfl) (by rw [hb]; exact h)
theorem fold_any (Z C : Array Value) (n : Nat) (hZ : Z.size = n) (hC : C.size = n) : Array.foldl (fun (cs : Array Value) x => cs.setIfInBounds x.snd x.fst) Z C.zipIdx 0 n = C := by
 have h1 : C.zipIdx.size = n := by simp [hC]
 rw [← h1, ← Array.foldl_toList, Array.toList_zipIdx, fold_set C.toList 0 _ (by simp [hC, hZ])]
 simp
theorem Gw {w : World} {b n : Nat} {cs : Array Value} {t : TypeId} {fr : Nat × Nat} (h : w.heap[b]? = some (.cells cs t fr)) (hn : cs.size = n) : Sl w (.slice (some ⟨b, 0, none⟩) 1 1) n 1 cs.toList :=
 ⟨by rw [Array.length_toList, hn, Nat.one_mul], .inr ⟨⟨b, 0, none⟩, 1, rfl, Nat.le_refl _, by unfold maxLen; omega, fun j u hu => by
  rw [Addr.add_mid, Nat.zero_add, AO h, ← hu]
  simp⟩⟩
theorem FP {w0 w w' : World} {R : Nat} {s : ByteArray} {h nx : Nat} {v : Value} (hr : RingAt w0 w R s h nx v) (hb : Below w.heap.size w w') : RingAt w0 w' R s h nx v :=
 ⟨(hb.block _ (AB hr.row)).trans hr.row, hr.lv.ext (Ext.ofB hb) (fun _ _ h => h), hr.ge, hr.sep⟩
end EntQ
namespace R2W
open Go Go.RowKit U32 ShaS ShaT ShaW Steps
theorem b_mul256 (t : TypeId) (x : UInt32) : binOp .mul t (.int .u32 (u x)) (.int .u32 256) = pure (.int .u32 (u (x * 256))) := by
 rw [binOp_mul]
 show pure (Value.int .u32 (IntKind.u32.wrap (u x * 256))) = _
 rw [IntKind.wrap_u32']
 have : (u x * 256) % 4294967296 = u (x * 256) := by
  unfold u
  rw [UInt32.toNat_mul, show (256 : UInt32).toNat = 256 from rfl]
  omega
 rw [this]
attribute [local go_sem high] Gq GG b_or Gp Ez b_shr3 GZ b_mul256
end R2W
namespace R2K
open Go Go.RowKit U32 ShaS ShaW ShaA ShaB ShaM R2W OctP Steps
attribute [local go_sem high] Gq GG b_or Gp Ez
end R2K
namespace R2M
open Go Go.RowKit U32 ShaS ShaW ShaA ShaB ShaM R2W OctP Steps
attribute [local go_sem high] Gq GG b_or Gp Ez
end R2M
namespace HdS
open OctetS IdentS ShaS EntS WireS WireT
structure Right (e : Hd) : Prop where
 room : DU e.room = true
 ep0 : 0 ≤ e.ep
 ep1 : e.ep ≤ 4096
 ix0 : 0 ≤ e.ix
 ix1 : e.ix ≤ 4096
 sig : e.sig.length ≤ 8192
theorem BV {e : Hd} : Ck e = true ↔ Right e := by
 unfold Ck
 simp only [Bool.and_eq_true, place_iff, decide_eq_true_eq]
 exact ⟨fun ⟨a, b, c, d⟩ => ⟨a, b.1, b.2, c.1, c.2, d⟩, fun h => ⟨h.room, ⟨h.ep0, h.ep1⟩, ⟨h.ix0, h.ix1⟩, h.sig⟩⟩
def parts (e : Hd) : List (List UInt8) := [CY, e.room, num e.ep.toNat, num e.ix.toNat, e.sum]
def text (e : Hd) : List UInt8 := OctetS.list (parts e)
def textOf (e : Hd) : List UInt8 := if Ck e then text e else []
theorem Right.fits {e : Hd} (h : Right e) (hp : e.sum.length = 32) : fits (parts e) = true := by
 rw [Ca]
 refine ⟨by simp [parts], fun t ht => ?_⟩
 have hr := Du h.room
 have h1 := GV h.ep0 h.ep1
 have h2 := GV h.ix0 h.ix1
 simp only [parts, List.mem_cons, List.not_mem_nil, or_false] at ht
 rcases ht with rfl | rfl | rfl | rfl | rfl
 ·simp [CY]
 ·omega
 ·omega
 ·omega
 ·omega
theorem read_text {e : Hd} (h : Right e) (hp : e.sum.length = 32) : Cn (text e) = some { e with sig := [] } := by
 unfold Cn HdS.text
 rw [Ie (h.fits hp)]
 simp only [if_true, HdS.parts, EU]
 rw [E9 (by unfold Av; omega) (by have := h.ep0; have := h.ep1; omega), E9 (by unfold Av; omega) (by have := h.ix0; have := h.ix1; omega)]
 simp only [Option.bind_some]
 rw [if_pos ⟨hp, h.room⟩]
 have h1 : ((e.ep.toNat : Nat) : Int) = e.ep := by have := h.ep0; omega
 have h2 : ((e.ix.toNat : Nat) : Int) = e.ix := by have := h.ix0; omega
 rw [h1, h2]
theorem IM {s : List UInt8} {e : Hd} (h : Cn s = some e) : Right e ∧ e.sum.length = 32 ∧ e.sig = [] ∧ text e = s := by
 unfold Cn at h
 split at h
 ·rename_i h0
  obtain ⟨l, y, ha⟩ : ∃ l y, all s = (l, y) := ⟨_, _, rfl⟩
  rw [ha] at h h0
  simp only at h h0
  subst h0
  obtain ⟨hfit, hlist⟩ := all_ok ha
  match l, h with
  | [k, r, a, b, p], h =>
    simp only [EU] at h
    split at h
    ·rename_i hk
     cases hx : small 4096 a with
     | none => rw [hx] at h; cases h
     | some x =>
       cases hy : small 4096 b with
       | none => rw [hx, hy] at h; cases h
       | some y =>
         rw [hx, hy] at h
         simp only [Option.bind_some] at h
         split at h
         ·rename_i hc
          cases h
          obtain ⟨hx1, hx2⟩ := EI hx
          obtain ⟨hy1, hy2⟩ := EI hy
          refine ⟨⟨hc.2, ?_, ?_, ?_, ?_, by simp⟩, hc.1, rfl, ?_⟩
          ·exact Int.natCast_nonneg _
          ·show (x : Int) ≤ 4096; omega
          ·exact Int.natCast_nonneg _
          ·show (y : Int) ≤ 4096; omega
          ·rw [← hlist, hk]
           unfold HdS.text
           simp only [HdS.parts, Int.toNat_natCast]
           rw [hx2, hy2]
         ·cases h
    ·cases h
  | [], h => simp [EU] at h
  | [_], h => simp [EU] at h
  | [_, _], h => simp [EU] at h
  | [_, _, _], h => simp [EU] at h
  | [_, _, _, _], h => simp [EU] at h
  | _ :: _ :: _ :: _ :: _ :: _ :: _, h => simp [EU] at h
 ·cases h
end HdS
end Go.Proofs.YtadofbbpfgmclaaGreatDoor
