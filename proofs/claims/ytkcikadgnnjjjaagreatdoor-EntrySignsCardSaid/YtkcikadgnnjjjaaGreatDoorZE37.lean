/-
  WHAT IS PROVED: entries' sums, bytes, signatures, and the statements' own check of them. Condition: what each theorem names.
-/
import Derived.Test.YtkcikadgnnjjjaaGreatDoorS0
import Derived.Test.YtkcikadgnnjjjaaGreatDoorZED25
import Derived.Test.YtkcikadgnnjjjaaGreatDoorZE36
set_option linter.unusedVariables false
set_option linter.unusedSimpArgs false
set_option maxRecDepth 100000
set_option maxHeartbeats 4000000
namespace Go.Proofs.YtkcikadgnnjjjaaGreatDoor.EntY
open Go Go.RowKit Go.Shelf OctetS IdentS EntS OctP OctQ OctG IdentP EntP EventC EventP ShaA Steps KeyA EntB
theorem bytesW_ok {e : Ent} : bytesW e = (if checkB e = true then (if (EntS.text e).length ≤ 8192 then (bytesE e, 0) else ([], 7)) else ([], 2)) := rfl
theorem Bytes_ok (w : World) (p : Array Value) (r : ByteArray) (ep ix : Int) (pv : List UInt8) (e s : ByteArray) (hp : EntP p r ep ix pv e s) (hv : VarsI w) (hr : r.size ≤ 140737488351232) (he : e.size ≤ maxLen) (hs : s.size ≤ maxLen) :
 Calls Tryz.prog 26 #[.agg p] w (KeyA.RB (.tuple #[.string (bsOf (bytesW (entOf r ep ix pv e s)).1), .int .i64 (bytesW (entOf r ep ix pv e s)).2]) w) := by
 have hT := fun w hv => Text_ok w p r ep ix pv e s hp hv hr he hs
 unfold EntS.textOf at hT
 rw [bytesW_ok]
 have hps := hp.size
 have hpi : (Tryz.prog.info? 27).map (·.size) = some 37 := by kernel_rfl
 rw [← hps] at hpi
 have HI := lh hpi
 have p36 : p[36]? = some (.string s) := by
  rw [hp.eq]
  unfold entA
  have hl : (byV pv).length = 32 := by rw [byV_length, hp.len]
  simp [hl]
 obtain ⟨w0, hw0⟩ := nXe (w.alloc (.cells p 27))
 have hb0 : Below w.heap.size w w0 := by rw [hw0]; exact (Below.refl _ w).alloc (Nat.le_refl _) _
 have HX0 := lh (show w0.heap[w.heap.size]? = some (.cells p 27 (0, 0)) by rw [hw0]; exact heap_new _ _)
 have HBL0 := lh hb0
 have HW0 := lh hw0
 have HV0 := lh (hv.below hb0)
 cases hchk : EntS.checkB (entOf r ep ix pv e s)
 ·skip
  rw [hchk] at hT
  rw [if_neg (by simp)]
  have HT := lh hT
  clear hT hchk hr he hs hp hb0 hv hw0 hpi hps p36
  go_enter Tryz.func26, Tryz.ntmps26
  go_wp2_with (first | (rw [← HW0.out]; refine wpList_load_row rfl _ _ rfl w.heap.size rfl _ p (0, 0) _ HX0.out Tryz.underlying27 rfl HI.out ?_) | fail)
  refine (HT.out w0 HV0.out).mono ?_
  rintro e' w1 ⟨rfl, hb⟩
  have HBL1 := tbB HBL0 hb
  clear hb
  unfold whyOf
  go_wp2
  go_ret2
  exact ⟨rfl, HBL1.out⟩
 ·skip
  rw [hchk] at hT
  rw [if_pos rfl] at hT ⊢
  have hR := EntS.check_iff.1 hchk
  have hlen := EntX.ent_len hR hp.len
  have hsig := hR.sig
  have hbf : (EntS.text (entOf r ep ix pv e s)).length ≤ 8192 → fits [EntS.text (entOf r ep ix pv e s), bl s] = true := fun h => bytes_fits hR h
  have hbe : bytesE (entOf r ep ix pv e s) = OctetS.list [EntS.text (entOf r ep ix pv e s), bl s] := rfl
  rw [hbe]
  obtain ⟨t, ht⟩ := nXe (EntS.text (entOf r ep ix pv e s))
  rw [← ht] at hT hlen hbf ⊢
  obtain ⟨Tb, hTb⟩ := nXe (bsOf t)
  have hTl : bl Tb = t := by rw [hTb, bl_bsOf]
  have hTs : Tb.size = t.length := by rw [hTb, size_bsOf]
  rw [← hTb] at hT
  have hL : ∀ w v, Rd w v [Tb, s] → Calls Tryz.prog 60 #[v] w (KeyA.RB (.tuple #[.string (bsOf (if t.length ≤ 8192 then (OctetS.list [t, bl s], (0 : Int)) else ([], 7)).1), .int .i64 (if t.length ≤ 8192 then (OctetS.list [t, bl s], (0 : Int)) else ([], 7)).2]) w) := fun w v hrd => by
   by_cases h8 : t.length ≤ 8192
   ·rw [if_pos h8]
    have := List_ok w v [Tb, s] hrd (by simp only [List.map_cons, List.map_nil, hTl]; exact hbf h8)
    simp only [List.map_cons, List.map_nil, hTl] at this
    exact this
   ·rw [if_neg h8]
    exact List_long w v Tb [s] hrd (by simp) (by omega) (by omega)
  obtain ⟨O, hO⟩ := nXe (bsOf (if t.length ≤ 8192 then (OctetS.list [t, bl s], (0 : Int)) else ([], 7)).1)
  obtain ⟨E, hE⟩ := nXe ((if t.length ≤ 8192 then (OctetS.list [t, bl s], (0 : Int)) else ([], 7)).2)
  rw [← hO, ← hE] at hL ⊢
  have HT := lh hT
  have HL := lh hL
  clear hL hO hE hT hTb hTl hTs ht hbf hbe hlen hsig hR hchk hr he hs hp hb0 hv hw0 hpi hps
  go_enter Tryz.func26, Tryz.ntmps26
  go_wp2_with (first | (rw [← HW0.out]; refine wpList_load_row rfl _ _ rfl w.heap.size rfl _ p (0, 0) _ HX0.out Tryz.underlying27 rfl HI.out ?_) | fail)
  refine (HT.out w0 HV0.out).mono ?_
  rintro e' w1 ⟨rfl, hb⟩
  have HBL1 := tbB HBL0 hb
  have HX1 := kpB hb HX0
  clear hb
  have hc36 : w1.cell? ⟨w.heap.size, 36, none⟩ = some (.string s) := by rw [cell_row HX1.out]; exact p36
  unfold whyOf
  go_wp2_with fail
  refine (HL.out _ _ (EventB.sl_built (n := 2) (heap_new _ _) rfl (by simp [maxLen]))).mono ?_
  rintro e' w2 ⟨rfl, hb⟩
  have HBL2 := lh (HBL1.out.trans ((((Below.refl _ w1).alloc (Nat.le_refl _) _).trans (hb.mono (by simp))).mono HBL1.out.size))
  clear hb
  go_wp2
  go_ret2
  exact ⟨rfl, HBL2.out⟩
end Go.Proofs.YtkcikadgnnjjjaaGreatDoor.EntY
namespace Go.Proofs.YtkcikadgnnjjjaaGreatDoor.EntV
open Go Go.RowKit Go.Shelf OctetS IdentS EntS OctP OctG IdentP EntP EventC EventP Steps
theorem Verify_of (w : World) (p : Array Value) (r : ByteArray) (ep ix : Int) (pv : List UInt8) (e s : ByteArray) (hp : EntP p r ep ix pv e s) (hv : VarsI w) (hr : r.size ≤ 140737488351232) (he : e.size ≤ maxLen) (hs : s.size ≤ maxLen) (hchk : EntS.checkB (entOf r ep ix pv e s) = true)
 (v : Value) (sv res : Int) (hB : ∀ w', Below w.heap.size w w' → Calls Tryz.prog 33 #[v, .int .i64 sv, .int .i64 ix, .string (bsOf (EntS.text (entOf r ep ix pv e s))), .string s] w' (KeyA.RB (.int .i64 res) w')) :
 Calls Tryz.prog 8 #[v, .int .i64 sv, .agg p] w (KeyA.RB (.int .i64 res) w) := by
 have hT := fun w hv => Text_ok w p r ep ix pv e s hp hv hr he hs
 unfold EntS.textOf at hT
 rw [hchk] at hT
 rw [if_pos rfl] at hT
 have hR := EntS.check_iff.1 hchk
 have hi0 : 0 ≤ ix := hR.ix0
 have hi1 : ix ≤ 4096 := hR.ix1
 have hps := hp.size
 have hpi : (Tryz.prog.info? 27).map (·.size) = some 37 := by kernel_rfl
 rw [← hps] at hpi
 have HI := lh hpi
 have p2 := hp.c2
 have p36 : p[36]? = some (.string s) := by
  rw [hp.eq]
  unfold entA
  have hl : (byV pv).length = 32 := by rw [byV_length, hp.len]
  simp [hl]
 have hwr : IntKind.i64.wrap ix = ix := by rw [IntKind.wrap_i64]; omega
 obtain ⟨T, hT2⟩ := nXe (bsOf (EntS.text (entOf r ep ix pv e s)))
 rw [← hT2] at hT hB
 obtain ⟨w0, hw0⟩ := nXe (w.alloc (.cells p 27))
 have hb0 : Below w.heap.size w w0 := by rw [hw0]; exact (Below.refl _ w).alloc (Nat.le_refl _) _
 have HX0 := lh (show w0.heap[w.heap.size]? = some (.cells p 27 (0, 0)) by rw [hw0]; exact heap_new _ _)
 have HBL0 := lh hb0
 have HW0 := lh hw0
 have HV0 := lh (hv.below hb0)
 have HT := lh hT
 have HB := lh hB
 clear hT hB hT2 hchk hR hr he hs hp hb0 hv hw0 hpi hps
 go_enter Tryz.func8, Tryz.ntmps8
 go_wp2_with (first | (rw [← HW0.out]; refine wpList_load_row rfl _ _ rfl w.heap.size rfl _ p (0, 0) _ HX0.out Tryz.underlying27 rfl HI.out ?_) | fail)
 refine (HT.out w0 HV0.out).mono ?_
 rintro e' w1 ⟨rfl, hb⟩
 have HBL1 := tbB HBL0 hb
 have HX1 := kpB hb HX0
 clear hb
 have hc2 : w1.cell? ⟨w.heap.size, 2, none⟩ = some (.int .i64 ix) := by rw [cell_row HX1.out]; exact p2
 have hc36 : w1.cell? ⟨w.heap.size, 36, none⟩ = some (.string s) := by rw [cell_row HX1.out]; exact p36
 unfold whyOf
 go_wp2_with fail
 refine (HB.out w1 HBL1.out).mono ?_
 rintro e' w2 ⟨rfl, hb⟩
 have HBL2 := tbB HBL1 hb
 clear hb
 go_wp2
 go_ret
 exact ⟨rfl, HBL2.out⟩
end Go.Proofs.YtkcikadgnnjjjaaGreatDoor.EntV
namespace Go.Proofs.YtkcikadgnnjjjaaGreatDoor.EntW
open Go Go.RowKit Go.Shelf OctetS IdentS EntS OctP OctG IdentP EntP EventC EventP ShaA Steps KeyA KeyS KeyK TreeA
theorem entA_set36 (r : ByteArray) (ep ix : Int) (pv : List UInt8) (e s t : ByteArray) (hp : pv.length = 32) : (entA r ep ix pv e s).setIfInBounds 36 (.string t) = entA r ep ix pv e t := by
 have hl : ([.string r, .int .i64 ep, .int .i64 ix] ++ byV pv ++ [.string e] : List Value).length = 36 := by simp [byV_length, hp]
 have h1 : ∀ u : ByteArray, entA r ep ix pv e u = (([.string r, .int .i64 ep, .int .i64 ix] ++ byV pv ++ [.string e]) ++ [.string u] : List Value).toArray := fun u => by unfold entA; simp
 rw [h1 s, h1 t]
 generalize ([.string r, .int .i64 ep, .int .i64 ix] ++ byV pv ++ [.string e] : List Value) = L at hl ⊢
 simp only [List.setIfInBounds_toArray]
 congr 1
 rw [← hl, List.set_append_right _ _ (Nat.le_refl _), Nat.sub_self]
 rfl
theorem Sign_ok (w : World) (R : Nat) (sd : ByteArray) (h nx : Nat) (v : Value) (x : H32) (hsd : sd.size ≤ 64) (hh : h ≤ 7) (hn : nx < 2 ^ h) (hr0 : w.heap[R]? = some (.cells (ringA sd h nx v x) 75 (0, 0)))
 (hv0 : Sl w v 32 (2 ^ h) ((leavesH (bl sd) (2 ^ h)).flatMap H32.cs)) (hvb : ∀ k, v.ownBlock = some k → k < w.heap.size) (hk : VarsH w)
 (p : Array Value) (r : ByteArray) (ep ix : Int) (pv : List UInt8) (e s : ByteArray) (hp : EntP p r ep ix pv e s) (hv : VarsI w) (hr : r.size ≤ 140737488351232) (he : e.size ≤ maxLen) (hs : s.size ≤ maxLen) (hchk : EntS.checkB (entOf r ep ix pv e s) = true) :
 Calls Tryz.prog 11 #[.pointer (some ⟨R, 0, none⟩), .agg p] w fun e' w' => e' = .returned (.tuple #[.agg (entA r ep ix pv e (bsOf (sigOf (bl sd) h nx (EntS.text (entOf r ep ix pv e s))))), .int .i64 0]) ∧
  w'.heap[R]? = some (.cells (ringA sd h (nx + 1 : Nat) v x) 75 (0, 0)) ∧ Ext (fun k => k = R) w w' := by
 have hT := fun w hv => Text_ok w p r ep ix pv e s hp hv hr he hs
 unfold EntS.textOf at hT
 rw [hchk] at hT
 rw [if_pos rfl] at hT
 have hR := EntS.check_iff.1 hchk
 have hlen := EntX.ent_len hR hp.len
 have hps := hp.size
 have H36 := lh hp.c36
 have hpi : (Tryz.prog.info? 27).map (·.size) = some 37 := by kernel_rfl
 obtain ⟨Tb, hT2⟩ := nXe (bsOf (EntS.text (entOf r ep ix pv e s)))
 have hTs : Tb.size ≤ 140737488355328 := by rw [hT2, size_bsOf]; omega
 have hTb : bl Tb = EntS.text (entOf r ep ix pv e s) := by rw [hT2, bl_bsOf]
 rw [← hT2] at hT
 rw [← hTb]
 have hS := fun w' (hb : Below w.heap.size w w') => KeyM.Sign_ok w' R sd Tb h nx v x hsd hTs hh hn ((hb.block _ (lt_row hr0)).trans hr0) (hv0.below hb) (hk.below hb)
 obtain ⟨G, hG⟩ := nXe (bsOf (sigOf (bl sd) h nx (bl Tb)))
 rw [← hG] at hS ⊢
 obtain ⟨E, hE⟩ := nXe (entA r ep ix pv e G)
 have hEp : EntP E r ep ix pv e G := ⟨hE, hp.len⟩
 have hset : p.setIfInBounds 36 (.string G) = E := by rw [hp.eq, hE, entA_set36 _ _ _ _ _ _ _ hp.len]
 have HES : Hid ((Tryz.prog.info? 27).map (·.size) = some E.size) := lh (by rw [hEp.size]; exact hpi)
 have HEN : Hid (37 = E.size) := lh hEp.size.symm
 have HEO : Hid (E.all (·.oneCell') = true) := lh (by rw [hE]; exact WireT.entA_one _ _ _ _ _ _)
 rw [← hE]
 obtain ⟨Z, hZ⟩ := nXe (zl2)
 have HLIT : Hid (zq2 Z) := lh hZ.symm
 have HZN : Hid (Z.size = 37) := lh (by rw [hZ]; rfl)
 have hlR := lt_row hr0
 obtain ⟨w0, hw0⟩ := nXe ((w.alloc (.cells p 27)).alloc (.cells Z 27))
 have hb0 : Below w.heap.size w w0 := by rw [hw0]; exact ((Below.refl _ w).alloc (Nat.le_refl _) _).alloc (by simp) _
 have HX0 := lh (show w0.heap[w.heap.size]? = some (.cells p 27 (0, 0)) by rw [hw0]; exact heap_at (heap_new _ _) _)
 have HZ0 := lh (show w0.heap[w.heap.size + 1]? = some (.cells Z 27 (0, 0)) by rw [hw0]; exact heap_new' _ (by simp))
 have HBL0 := lh hb0
 have HW0 := lh hw0
 have HV0 := lh (hv.below hb0)
 have HT := lh hT
 have HS := lh hS
 have HI := lh (show (Tryz.prog.info? 27).map (·.size) = some p.size by rw [hps]; exact hpi)
 have Hset := lh hset
 clear hT hS hT2 hchk hR hr he hs hp hb0 hv hw0 hpi hps hG hE hEp hset hTb hTs hlen hv0 hr0 hk hvb hZ
 go_enter Tryz.func11, Tryz.ntmps11
 go_wp2_with (first | (rw [HLIT.out, ← HW0.out]; refine wpList_load_row rfl _ _ rfl w.heap.size rfl _ p (0, 0) _ HX0.out Tryz.underlying27 rfl HI.out ?_) | fail)
 refine (HT.out w0 HV0.out).mono ?_
 rintro e' w1 ⟨rfl, hb⟩
 have HBL1 := tbB HBL0 hb
 have HX1 := kpB hb HX0
 have HZ1 := kpB hb HZ0
 clear hb
 unfold whyOf
 go_wp2_with fail
 refine (HS.out w1 HBL1.out).mono ?_
 rintro e' w2 ⟨rfl, hr2, hE2⟩
 have hx2 := hE2.blockOf HX1.out (fun h => by omega)
 have HX2 := lh hx2
 have HZ2 := lh (hE2.blockOf HZ1.out (fun h => by omega))
 have HR2 := lh hr2
 have HE2 := lh ((Ext.of_below (S := fun k => k = R) HBL1.out).trans hE2)
 have c36 : w2.cell? ⟨w.heap.size, 36, none⟩ = some (.string s) := by rw [cell_row hx2]; exact H36.out
 have f36 : w2.frozen? ⟨w.heap.size, 36, none⟩ = false := frozen_row hx2
 have HX3 : Hid ((w2.setCell ⟨w.heap.size, 36, none⟩ (.string G)).heap[w.heap.size]? = some (.cells E 27 (0, 0))) := lh (by rw [← Hset.out]; exact heap_setCell_same hx2 _)
 have HZ3 : Hid ((w2.setCell ⟨w.heap.size, 36, none⟩ (.string G)).heap[w.heap.size + 1]? = some (.cells Z 27 (0, 0))) := lh ((heap_setCell_far _ (by omega)).trans HZ2.out)
 have HR3 : Hid ((w2.setCell ⟨w.heap.size, 36, none⟩ (.string G)).heap[R]? = some (.cells (ringA sd h (nx + 1 : Nat) v x) 75 (0, 0))) := lh ((heap_setCell_far _ (by omega)).trans HR2.out)
 have HE3 : Hid (Ext (fun k => k = R) w (w2.setCell ⟨w.heap.size, 36, none⟩ (.string G))) := lh (HE2.out.setCell (p := ⟨w.heap.size, 36, none⟩) (.inr (Nat.le_refl _)) _)
 clear hr2 hE2 hx2
 go_wp2_with (first | (refine wpList_load_row rfl _ _ rfl w.heap.size rfl _ E (0, 0) _ HX3.out Tryz.underlying27 rfl HES.out ?_) | (refine wpList_store_rowA rfl _ _ _ rfl (w.heap.size + 1) E rfl rfl _ _ HZ3.out HES.out (by rw [HZN.out]; exact HEN.out) HEO.out ?_) | fail)
 intro wf hwf
 go_wp2
 refine bodyPost_ret (v := .tuple #[.agg E, .int .i64 0]) (WireT.results_cell_slot rfl _ _ (w.heap.size + 1) 27 E (0, 0) _ rfl (by rw [hwf.out]; exact setRow_at HZ3.out) Tryz.underlying27 rfl HES.out rfl) rfl ⟨rfl, ?_, ?_⟩
 ·rw [hwf.out, setRow_far _ (by omega)]
  exact HR3.out
 ·rw [hwf.out]
  exact HE3.out.grown (row := some (w.heap.size + 1)) (grownBy_setRow _ _ _) (fun k hk => by cases hk; exact .inr (by omega))
end Go.Proofs.YtkcikadgnnjjjaaGreatDoor.EntW
namespace Go.Proofs.YtkcikadgnnjjjaaGreatDoor.EqEnt
open Go Go.RowKit ShaB EqHash EntP OctP
theorem ext_prev (r : ByteArray) (ep ix : Int) (pv : List UInt8) (e s : ByteArray) (hp : pv.length = 32) : (entA r ep ix pv e s).extract 3 35 = pB 32 pv := by
 rw [← pB_of hp]
 unfold entA
 have h1 : (byV pv).length = 32 := by rw [byV_length, hp]
 rw [List.extract_toArray]
 congr 1
 rw [List.extract_eq_take_drop]
 simp [h1]
theorem fieldsEnt (d : Nat) (r1 r2 e1 e2 s1 s2 : ByteArray) (a1 a2 b1 b2 : Int) (p1 p2 : List UInt8) (h1 : p1.length = 32) (h2 : p2.length = 32) (w : World) :
 (Op.eqFields (d + 2) (entA r1 a1 b1 p1 e1 s1) (entA r2 a2 b2 p2 e2 s2) [⟨"Room", 9, 0, false, "", "", 0⟩, ⟨"Epoch", 3, 1, false, "", "", 16⟩, ⟨"Index", 3, 2, false, "", "", 24⟩, ⟨"Prev", 25, 3, false, "", "", 32⟩, ⟨"Event", 9, 35, false, "", "", 64⟩, ⟨"Sig", 9, 36, false, "", "", 80⟩]).run Tryz.prog w =
 .ok (r1.toList == r2.toList && (a1 == a2 && (b1 == b2 && (hEq p1 p2 && (e1.toList == e2.toList && s1.toList == s2.toList))))) w := by
 have u3 : Tryz.prog.underlying 3 = some (.int .i64) := by kernel_rfl
 have u9 : Tryz.prog.underlying 9 = some .string := by kernel_rfl
 have k3 : Tryz.prog.plainKey 3 = true := by kernel_rfl
 have k9 : Tryz.prog.plainKey 9 = true := by kernel_rfl
 have E1 : EntP (entA r1 a1 b1 p1 e1 s1) r1 a1 b1 p1 e1 s1 := ⟨rfl, h1⟩
 have E2 : EntP (entA r2 a2 b2 p2 e2 s2) r2 a2 b2 p2 e2 s2 := ⟨rfl, h2⟩
 have x1 := ext_prev r1 a1 b1 p1 e1 s1 h1
 have x2 := ext_prev r2 a2 b2 p2 e2 s2 h2
 obtain ⟨A, hA⟩ := nXe (entA r1 a1 b1 p1 e1 s1)
 obtain ⟨B, hB⟩ := nXe (entA r2 a2 b2 p2 e2 s2)
 rw [← hA] at E1 x1 ⊢
 rw [← hB] at E2 x2 ⊢
 have q0 := run_part_plain w k9 (off := 0) E1.c0
 have q0' := run_part_plain w k9 (off := 0) E2.c0
 have q1 := run_part_plain w k3 (off := 1) E1.c1
 have q1' := run_part_plain w k3 (off := 1) E2.c1
 have q2 := run_part_plain w k3 (off := 2) E1.c2
 have q2' := run_part_plain w k3 (off := 2) E2.c2
 have q3 := part_hash w A 3
 have q3' := part_hash w B 3
 have q4 := run_part_plain w k9 (off := 35) E1.c35
 have q4' := run_part_plain w k9 (off := 35) E2.c35
 have q5 := run_part_plain w k9 (off := 36) E1.c36
 have q5' := run_part_plain w k9 (off := 36) E2.c36
 rw [x1] at q3
 rw [x2] at q3'
 have z0 := run_equalIn_string (P := Tryz.prog) w (d + 1) 9 r1 r2 u9
 have z1 := run_equalIn_int (P := Tryz.prog) w (d + 1) 3 .i64 .i64 a1 a2 u3
 have z2 := run_equalIn_int (P := Tryz.prog) w (d + 1) 3 .i64 .i64 b1 b2 u3
 have z3 := eqHashD d p1 p2 w
 have z4 := run_equalIn_string (P := Tryz.prog) w (d + 1) 9 e1 e2 u9
 have z5 := run_equalIn_string (P := Tryz.prog) w (d + 1) 9 s1 s2 u9
 have h := eqF_cons (f := ⟨"Room", 9, 0, false, "", "", 0⟩) (by decide) q0 q0' z0 (eqF_cons (f := ⟨"Epoch", 3, 1, false, "", "", 16⟩) (by decide) q1 q1' z1 (eqF_cons (f := ⟨"Index", 3, 2, false, "", "", 24⟩) (by decide) q2 q2' z2
  (eqF_cons (f := ⟨"Prev", 25, 3, false, "", "", 32⟩) (by decide) q3 q3' z3 (eqF_cons (f := ⟨"Event", 9, 35, false, "", "", 64⟩) (by decide) q4 q4' z4 (eqF_cons (f := ⟨"Sig", 9, 36, false, "", "", 80⟩) (by decide) q5 q5' z5 eqF_nil)))))
 rw [Bool.and_true] at h
 exact h
theorem eqEnt (r1 r2 e1 e2 s1 s2 : ByteArray) (a1 a2 b1 b2 : Int) (p1 p2 : List UInt8) (h1 : p1.length = 32) (h2 : p2.length = 32) (w : World) : (Op.equalIn 10000 27 (.agg (entA r1 a1 b1 p1 e1 s1)) (.agg (entA r2 a2 b2 p2 e2 s2))).run Tryz.prog w =
 .ok (r1.toList == r2.toList && (a1 == a2 && (b1 == b2 && (hEq p1 p2 && (e1.toList == e2.toList && s1.toList == s2.toList))))) w := by
 have hS : Tryz.prog.underlying 27 = some (.struct (Tryz.prog.fieldsOf 27)) := by kernel_rfl
 have hF : (Tryz.prog.fieldsOf 27).toList = [⟨"Room", 9, 0, false, "", "", 0⟩, ⟨"Epoch", 3, 1, false, "", "", 16⟩, ⟨"Index", 3, 2, false, "", "", 24⟩, ⟨"Prev", 25, 3, false, "", "", 32⟩, ⟨"Event", 9, 35, false, "", "", 64⟩, ⟨"Sig", 9, 36, false, "", "", 80⟩] := by kernel_rfl
 have hp : Tryz.prog.stoodInHeld 27 = false := by kernel_rfl
 have h := fieldsEnt 9997 r1 r2 e1 e2 s1 s2 a1 a2 b1 b2 p1 p2 h1 h2 w
 rw [← hF] at h
 rw [show (10000 : Nat) = 9999 + 1 from rfl, run_equalIn_agg w 9999 27 _ _ hS hp]
 exact h
theorem guardEnt : Go.Program.eqGuardType Tryz.prog Tryz.prog.depth 27 = false := by kernel_rfl
end Go.Proofs.YtkcikadgnnjjjaaGreatDoor.EqEnt
namespace Go.Proofs.YtkcikadgnnjjjaaGreatDoor.EntK
open OctetS IdentS EntS EntB KeyS KeyN NSha
set_option maxRecDepth 100000
def T6 : List UInt8 := [6, 5, 101, 110, 116, 114, 121, 7, 33, 104, 97, 108, 108, 58, 48, 1, 1, 1, 6, 32, 0, 0, 0, 0, 0, 0, 0, 0, 0, 0, 0, 0, 0, 0, 0, 0, 0, 0, 0, 0, 0, 0, 0, 0, 0, 0, 0, 0, 0, 0, 0, 0, 1, 120]
theorem G_len : G.length = 1121 := by
 unfold G
 rw [sigOf_length (by decide)]
theorem G_head : (G.headD 0).toNat = 0 := by
 unfold G
 exact sigOf_head (by decide) (by decide) _ _
theorem lt6 : OctetS.list [EntS.mark, rm, num 1, num 6, z32, [120]] = T6 := by decide +kernel
theorem text6 (s : List UInt8) : EntS.text (ent 6 s) = T6 := by
 rw [← lt6]
 rfl
theorem T5_len : T5.length ≤ 8192 := by decide +kernel
theorem check6 {s : List UInt8} (hs : s.length ≤ 8192) : checkB (ent 6 s) = true := check_iff.2 (right (by omega) hs)
theorem read5 : WireS.read T5 = some (ent 5 []) := by
 have h := read_text (right (ix := 5) (by omega) (s := []) (by simp)) z32_len
 rw [text5] at h
 exact h
theorem bytes5 : bytesE (ent 5 G) = OctetS.list [T5, G] := by
 unfold bytesE
 rw [text5]
 rfl
theorem parse5 : WireS.parse (OctetS.list [T5, G]) = some (ent 5 G) := by
 have h := parse_bytes (right (ix := 5) (by omega) (s := G) (by rw [G_len]; omega)) z32_len (by rw [text5]; exact T5_len)
 rw [bytes5] at h
 exact h
theorem fits5 : fits [T5, G] = true := by
 have h := bytes_fits (right (ix := 5) (by omega) (s := G) (by rw [G_len]; omega)) (by rw [text5]; exact T5_len)
 rw [text5] at h
 exact h
theorem parse_more {l : List (List UInt8)} (h : fits l = true) (x : UInt8) : WireS.parse (OctetS.list l ++ [x]) = none := by
 have h1 := getList_list h [x]
 have h2 : (all (OctetS.list l ++ [x])).2 = 6 := by
  unfold all
  rw [h1]
  simp
 unfold WireS.parse
 rw [h2]
 simp
theorem climb5 : climbOf 1 T5 G = rootOf [115] 1 := by
 have h := verify_sig (h := 1) (i := 0) (by decide) (by decide) [115] T5
 unfold verify at h
 by_cases hb : sigB 1 (sigOf [115] 1 0 T5) = true
 ·rw [if_pos hb] at h
  by_cases hc : climbOf 1 T5 (sigOf [115] 1 0 T5) = rootOf [115] 1
  ·exact hc
  ·rw [if_neg hc] at h
   cases h
 ·rw [if_neg hb] at h
  cases h
theorem climb6 : climbOf 1 T6 G ≠ rootOf [115] 1 := other_no (t := [6, 5, 101, 110, 116, 114, 121, 7, 33, 104, 97, 108, 108, 58, 48, 1, 1, 1, 5, 32, 0, 0, 0, 0, 0, 0, 0, 0, 0, 0, 0, 0, 0, 0, 0, 0, 0, 0, 0, 0, 0, 0, 0, 0, 0, 0, 0, 0, 0, 0, 0, 0, 1, 120]) (o := [6, 5, 101, 110, 116, 114, 121, 7, 33, 104, 97, 108, 108, 58, 48, 1, 1, 1, 6, 32, 0, 0, 0, 0, 0, 0, 0, 0, 0, 0, 0, 0, 0, 0, 0, 0, 0, 0, 0, 0, 0, 0, 0, 0, 0, 0, 0, 0, 0, 0, 0, 0, 1, 120]) (r := [242, 124, 105, 156, 171, 149, 251, 141, 237, 14, 184, 168, 224, 205, 36, 153, 117, 124, 137, 154, 46, 165, 71, 57, 154, 109, 77, 238, 72, 219, 231, 65]) (b := [7, 40, 155, 86, 173, 193, 102, 95, 90, 175, 50, 109, 158, 101, 38, 185, 236, 96, 157, 32, 168, 40, 43, 186, 18, 179, 78, 212, 101, 177, 36, 201]) (by decide +kernel) (by decide +kernel) (by decide +kernel) (by decide +kernel) (by decide)
end Go.Proofs.YtkcikadgnnjjjaaGreatDoor.EntK
namespace Go.Proofs.YtkcikadgnnjjjaaGreatDoor.EntL
open Go Go.RowKit Go.Shelf OctetS IdentS EntS OctG IdentP EntP EventC ShaA Steps KeyA KeyS KeyI KeyK TreeA EntK EntB BookA
def gB : ByteArray := bsOf G
theorem gB_size : gB.size = 1121 := by
 unfold gB
 rw [size_bsOf, G_len]
theorem gB_z : gB.size ≤ maxLen := by
 rw [gB_size]
 unfold maxLen
 omega
theorem G_le : G.length ≤ 8192 := by
 rw [G_len]
 omega
theorem check_5 : EntS.checkB (entOf rB 1 ((5 : Nat) : Int) z32 xB gB) = true := by
 unfold gB
 rw [of_ent]
 exact check5 G_le
theorem check_6 : EntS.checkB (entOf rB 1 ((6 : Nat) : Int) z32 xB gB) = true := by
 unfold gB
 rw [of_ent]
 exact check6 G_le
theorem text_5 : EntS.text (entOf rB 1 ((5 : Nat) : Int) z32 xB gB) = T5 := by
 unfold gB
 rw [of_ent]
 exact text5 _
theorem text_6 : EntS.text (entOf rB 1 ((6 : Nat) : Int) z32 xB gB) = T6 := by
 unfold gB
 rw [of_ent]
 exact text6 _
def sB : ByteArray := bsOf (OctetS.list [T5, G])
def tB : ByteArray := bsOf T5
theorem list_len2 : (OctetS.list [T5, G]).length ≤ 20000 := by
 have h := EntX.flat_len [T5, G] (fun t ht => by
  simp only [List.mem_cons, List.not_mem_nil, or_false] at ht
  rcases ht with rfl | rfl
  ·exact T5_len
  ·exact G_le)
 have h5 := OctetS.num_length2 (n := 2) (by omega)
 have h2 : ([T5, G].flatMap OctetS.text).length ≤ 8194 * 2 := h
 show (OctetS.num 2 ++ [T5, G].flatMap OctetS.text).length ≤ 20000
 rw [List.length_append]
 omega
theorem sB_size : sB.size ≤ 20000 := by
 unfold sB
 rw [size_bsOf]
 exact list_len2
theorem Root_s (w : World) (hk : VarsH w) : Calls Tryz.prog 25 #[.agg #[.string ⟨#[115]⟩, .int .i64 1, .int .i64 0]] w (RB (.tuple #[.agg (rootK [115] 1).A, .int .i64 0]) w) :=
 KeyL.Root_yes w sS 1 0 (by decide) (by decide) (by decide) (by decide) hk
theorem Sign_s (w0 w : World) (R : Nat) (v : Value) (h : RingAt w0 w R sS 1 0 v) (hk : VarsH w) (hv : VarsI w) :
 Calls Tryz.prog 11 #[.pointer (some ⟨R, 0, none⟩), .agg (eA 5 nB)] w fun e' w' => e' = .returned (.tuple #[.agg (eA 5 gB), .int .i64 0]) ∧ Ext (fun k => k = R) w w' := by
 have h1 := EntW.Sign_ok w R sS 1 0 v _ (by decide) (by decide) (by decide) h.row h.lv.sl (fun k hk => (h.lv.lt k hk).2) hk (eA 5 nB) rB 1 ((5 : Nat) : Int) z32 xB nB (eP 5 nB) hv rB_z xB_z nB_z check_n
 rw [text_n, sS_bl] at h1
 refine h1.mono ?_
 rintro e w' ⟨rfl, _, hE⟩
 exact ⟨rfl, hE⟩
theorem Bytes_s (w : World) (hv : VarsI w) : Calls Tryz.prog 26 #[.agg (eA 5 gB)] w (RB (.tuple #[.string sB, .int .i64 0]) w) := by
 have h := EntY.Bytes_ok w (eA 5 gB) rB 1 ((5 : Nat) : Int) z32 xB gB (eP 5 gB) hv rB_z xB_z gB_z
 have hb : EntB.bytesW (entOf rB 1 ((5 : Nat) : Int) z32 xB gB) = (OctetS.list [T5, G], 0) := by
  rw [EntY.bytesW_ok, check_5, if_pos rfl, text_5, if_pos T5_len]
  unfold gB
  rw [of_ent, bytes5]
 rw [hb] at h
 exact h
theorem Parse_s (w : World) (hv : VarsI w) : Calls Tryz.prog 27 #[.string sB] w (RB (.tuple #[.agg (eA 5 gB), .int .i64 0]) w) := by
 have h := WireB.Parse_ok w sB (by have := sB_size; omega) hv
 have hp : WireS.parse (bl sB) = some (ent 5 G) := by
  unfold sB
  rw [bl_bsOf]
  exact parse5
 rw [hp] at h
 exact h
theorem Text_s (w : World) (hv : VarsI w) : Calls Tryz.prog 28 #[.agg (eA 5 gB)] w (RB (.tuple #[.string tB, .int .i64 0]) w) := by
 have h := Text_ok w (eA 5 gB) rB 1 ((5 : Nat) : Int) z32 xB gB (eP 5 gB) hv rB_z xB_z gB_z
 unfold EntS.textOf at h
 rw [check_5, if_pos rfl, text_5] at h
 exact h
theorem Read_s (w : World) (hv : VarsI w) : Calls Tryz.prog 29 #[.string tB] w (RB (.tuple #[.agg (eA 5 nB), .int .i64 0]) w) := by
 have h := WireB.Read_ok w tB (by unfold tB; rw [size_bsOf]; have := T5_len; omega) hv
 have hp : WireS.read (bl tB) = some (ent 5 []) := by
  unfold tB
  rw [bl_bsOf]
  exact read5
 rw [hp] at h
 exact h
theorem bl_snoc (s : ByteArray) : bl (s ++ ⟨#[33]⟩) = bl s ++ [33] := by simp [bl]
theorem size_snoc (s : ByteArray) : (s ++ ⟨#[33]⟩ : ByteArray).size = s.size + 1 := by
 rw [ByteArray.size_append]
 rfl
theorem small_snoc (s : ByteArray) (h : s.size ≤ 20000) : (s ++ ⟨#[33]⟩ : ByteArray).size ≤ 140737488351232 := by
 rw [size_snoc]
 omega
theorem parse_snoc (w : World) (s : ByteArray) (l : List (List UInt8)) (hf : fits l = true) (hl : bl s = OctetS.list l) (hz : s.size ≤ 20000) (hv : VarsI w) : Calls Tryz.prog 27 #[.string (s ++ ⟨#[33]⟩)] w (RB (.tuple #[.agg WireT.entZ, .int .i64 6]) w) := by
 have h := WireB.Parse_ok w _ (small_snoc s hz) hv
 rw [bl_snoc, hl, parse_more hf] at h
 exact h
theorem Parse_more (w : World) (hv : VarsI w) : Calls Tryz.prog 27 #[.string (sB ++ ⟨#[33]⟩)] w (RB (.tuple #[.agg WireT.entZ, .int .i64 6]) w) :=
 parse_snoc w sB _ fits5 (by unfold sB; rw [bl_bsOf]) sB_size hv
theorem Check_s (w : World) (hv : VarsI w) : Calls Tryz.prog 30 #[.agg WireT.entZ] w (RB (.int .i64 2) w) := by
 have h := Check_ok w WireT.entZ ⟨#[]⟩ 0 0 WireT.zero32 ⟨#[]⟩ ⟨#[]⟩ ⟨rfl, rfl⟩ hv (by decide) (by decide +kernel) (by decide +kernel)
 have hc : EntS.checkB (entOf ⟨#[]⟩ 0 0 WireT.zero32 ⟨#[]⟩ ⟨#[]⟩) = false := by decide +kernel
 rw [hc] at h
 exact h
theorem Verify_5 (w : World) (v : Value) (hk : VarsH w) (hv : VarsI w) (hg : Sl w v 36 1 ([gr].flatMap Gr'.cs)) : Calls Tryz.prog 8 #[v, .int .i64 2, .agg (eA 5 gB)] w (RB (.int .i64 0) w) := by
 refine EntV.Verify_of w (eA 5 gB) rB 1 ((5 : Nat) : Int) z32 xB gB (eP 5 gB) hv rB_z xB_z gB_z check_5 v 2 0 (fun w' hb => ?_)
 rw [text_5]
 have h := BookE.Verify_yes w' v gr 2 ((5 : Nat) : Int) (bsOf T5) gB 1 gr_right rfl (hg.below hb) (found_yes _ (by decide) (by decide)) (by rw [size_bsOf]; have := T5_len; omega) gB_size (by unfold gB; rw [bl_bsOf, G_head]; decide) (hk.below hb)
 have hc : climbOf 1 (bl (bsOf T5)) (bl gB) = gr.rt.l := by
  unfold gB
  rw [bl_bsOf, bl_bsOf, climb5]
  exact (rootK_l _ _).symm
 rw [if_pos hc] at h
 exact h
theorem Verify_6 (w : World) (v : Value) (hk : VarsH w) (hv : VarsI w) (hg : Sl w v 36 1 ([gr].flatMap Gr'.cs)) : Calls Tryz.prog 8 #[v, .int .i64 2, .agg (eA 6 gB)] w (RB (.int .i64 9) w) := by
 refine EntV.Verify_of w (eA 6 gB) rB 1 ((6 : Nat) : Int) z32 xB gB (eP 6 gB) hv rB_z xB_z gB_z check_6 v 2 9 (fun w' hb => ?_)
 rw [text_6]
 have h := BookE.Verify_yes w' v gr 2 ((6 : Nat) : Int) (bsOf T6) gB 1 gr_right rfl (hg.below hb) (found_yes _ (by decide) (by decide)) (by rw [size_bsOf]; decide +kernel) gB_size (by unfold gB; rw [bl_bsOf, G_head]; decide) (hk.below hb)
 have hc : ¬ climbOf 1 (bl (bsOf T6)) (bl gB) = gr.rt.l := by
  unfold gB
  rw [bl_bsOf, bl_bsOf, show gr.rt.l = rootOf [115] 1 from rootK_l _ _]
  exact climb6
 rw [if_neg hc] at h
 exact h
theorem Verify_1 (w : World) (v : Value) (hk : VarsH w) (hv : VarsI w) (hg : Sl w v 36 1 ([gr].flatMap Gr'.cs)) : Calls Tryz.prog 8 #[v, .int .i64 1, .agg (eA 6 gB)] w (RB (.int .i64 3) w) := by
 refine EntV.Verify_of w (eA 6 gB) rB 1 ((6 : Nat) : Int) z32 xB gB (eP 6 gB) hv rB_z xB_z gB_z check_6 v 1 3 (fun w' hb => ?_)
 exact BookE.Verify_none w' v gr 1 _ _ gB gr_right (hg.below hb) (found_no _)
theorem eq_self (w : World) : (Op.equalIn 10000 27 (.agg (eA 5 nB)) (.agg (eA 5 nB))).run Tryz.prog w = .ok true w := by
 unfold eA
 rw [EqEnt.eqEnt _ _ _ _ _ _ _ _ _ _ _ _ z32_len z32_len, EqHash.hEq_self]
 simp
end Go.Proofs.YtkcikadgnnjjjaaGreatDoor.EntL
namespace Go.Proofs.YtkcikadgnnjjjaaGreatDoor.EntQ
open Go Go.RowKit Go.Shelf OctetS IdentS EntS OctG IdentP EntP EventC ShaA Steps KeyA KeyS KeyI KeyK TreeA EntK EntB BookA EntL KeyG
attribute [-go_sem] run_equalIn_agg
theorem lives_ok (w : World) (hv : VarsI w) (hk : VarsH w) : Calls Tryz.prog 6 #[] w (RB (.bool true) w) := by
 obtain ⟨E0, hE0⟩ := nXe (eA 5 nB)
 have hE0n : E0.size = 37 := by rw [hE0]; exact WireT.entA_size z32_len
 have HE0S : Hid ((Tryz.prog.info? 27).map (·.size) = some E0.size) := lh (by rw [hE0n]; kernel_rfl)
 have HE0N : Hid (37 = E0.size) := lh hE0n.symm
 have HE0O : Hid (E0.all (·.oneCell') = true) := lh (by rw [hE0]; exact WireT.entA_one _ _ _ _ _ _)
 obtain ⟨EF, hEF⟩ := nXe (eA 5 gB)
 have hEFn : EF.size = 37 := by rw [hEF]; exact WireT.entA_size z32_len
 have HEFS : Hid ((Tryz.prog.info? 27).map (·.size) = some EF.size) := lh (by rw [hEFn]; kernel_rfl)
 have HEFN : Hid (37 = EF.size) := lh hEFn.symm
 have HEFO : Hid (EF.all (·.oneCell') = true) := lh (by rw [hEF]; exact WireT.entA_one _ _ _ _ _ _)
 obtain ⟨E6, hE6⟩ := nXe (eA 6 gB)
 have hE6n : E6.size = 37 := by rw [hE6]; exact WireT.entA_size z32_len
 have HE6S : Hid ((Tryz.prog.info? 27).map (·.size) = some E6.size) := lh (by rw [hE6n]; kernel_rfl)
 have HE6N : Hid (37 = E6.size) := lh hE6n.symm
 have HE6O : Hid (E6.all (·.oneCell') = true) := lh (by rw [hE6]; exact WireT.entA_one _ _ _ _ _ _)
 obtain ⟨EZ, hEZ⟩ := nXe (WireT.entZ)
 have hEZn : EZ.size = 37 := by rw [hEZ]; rfl
 have HEZS : Hid ((Tryz.prog.info? 27).map (·.size) = some EZ.size) := lh (by rw [hEZn]; kernel_rfl)
 have HEZN : Hid (37 = EZ.size) := lh hEZn.symm
 have HEZO : Hid (EZ.all (·.oneCell') = true) := lh (by rw [hEZ]; exact WireT.entA_one _ _ _ _ _ _)
 obtain ⟨C, hC⟩ := nXe ((rootK [115] 1).A)
 have hCn : C.size = 32 := by rw [hC]; exact H32.size _
 have HCS : Hid ((Tryz.prog.info? 25).map (·.size) = some C.size) := lh (by rw [hCn]; kernel_rfl)
 have HCN : Hid (32 = C.size) := lh hCn.symm
 have HCO : Hid (C.all (·.oneCell') = true) := lh (by rw [hC]; exact H32.one _)
 have hE0L : (#[.string ⟨#[33, 104, 97, 108, 108, 58, 48]⟩, .int .i64 1, .int .i64 5, .int .u8 0, .int .u8 0, .int .u8 0, .int .u8 0, .int .u8 0, .int .u8 0, .int .u8 0, .int .u8 0, .int .u8 0, .int .u8 0, .int .u8 0, .int .u8 0, .int .u8 0, .int .u8 0, .int .u8 0, .int .u8 0, .int .u8 0, .int .u8 0, .int .u8 0, .int .u8 0, .int .u8 0, .int .u8 0, .int .u8 0, .int .u8 0, .int .u8 0, .int .u8 0, .int .u8 0, .int .u8 0, .int .u8 0, .int .u8 0, .int .u8 0, .int .u8 0, .string ⟨#[120]⟩, .string ⟨#[]⟩] : Array Value) = E0 := by rw [hE0]; kernel_rfl
 have hEZL : (#[.string ⟨#[]⟩, .int .i64 0, .int .i64 0, .int .u8 0, .int .u8 0, .int .u8 0, .int .u8 0, .int .u8 0, .int .u8 0, .int .u8 0, .int .u8 0, .int .u8 0, .int .u8 0, .int .u8 0, .int .u8 0, .int .u8 0, .int .u8 0, .int .u8 0, .int .u8 0, .int .u8 0, .int .u8 0, .int .u8 0, .int .u8 0, .int .u8 0, .int .u8 0, .int .u8 0, .int .u8 0, .int .u8 0, .int .u8 0, .int .u8 0, .int .u8 0, .int .u8 0, .int .u8 0, .int .u8 0, .int .u8 0, .string ⟨#[]⟩, .string ⟨#[]⟩] : Array Value) = EZ := by rw [hEZ]; kernel_rfl
 have hE6L : (#[.string ⟨#[33, 104, 97, 108, 108, 58, 48]⟩, .int .i64 1, .int .i64 6, .int .u8 0, .int .u8 0, .int .u8 0, .int .u8 0, .int .u8 0, .int .u8 0, .int .u8 0, .int .u8 0, .int .u8 0, .int .u8 0, .int .u8 0, .int .u8 0, .int .u8 0, .int .u8 0, .int .u8 0, .int .u8 0, .int .u8 0, .int .u8 0, .int .u8 0, .int .u8 0, .int .u8 0, .int .u8 0, .int .u8 0, .int .u8 0, .int .u8 0, .int .u8 0, .int .u8 0, .int .u8 0, .int .u8 0, .int .u8 0, .int .u8 0, .int .u8 0, .string ⟨#[120]⟩, .string gB] : Array Value) = E6 := by rw [hE6]; kernel_rfl
 have hCL : C = rootL := by rw [hC]; exact root_A
 have hset : EF.setIfInBounds 2 (.int .i64 6) = E6 := by rw [hEF, hE6]; unfold eA entA; rfl
 have c2 : EF[2]? = some (.int .i64 5) := by rw [hEF]; exact (eP 5 gB).c2
 have c36 : EF[36]? = some (.string gB) := by rw [hEF]; exact (eP 5 gB).c36
 have c636 : E6[36]? = some (.string gB) := by rw [hE6]; exact (eP 6 gB).c36
 have hq : ∀ w, (Op.equalIn 10000 27 (.agg E0) (.agg E0)).run Tryz.prog w = .ok true w := by rw [hE0]; exact eq_self
 have hGE := EqEnt.guardEnt
 have hgz := gB_size
 have hgk : decide ((1000 : Int) < ((1121 : Nat) : Int)) = true := by decide
 have hgq : (gB.toList == gB.toList) = true := beq_self_eq_true _
 have V3 := Sign_s
 have V4 := Bytes_s
 have V5 := Parse_s
 have V6 := Text_s
 have V7 := Read_s
 have V8 := Parse_more
 have V9 := Verify_5
 have V10 := Verify_6
 have V11 := Verify_1
 have V12 := Check_s
 have V2 := Root_s
 rw [← hE0] at V3 V7
 rw [← hEF] at V3 V4 V5 V6 V9
 rw [← hE6] at V10 V11
 rw [← hEZ] at V8 V12
 rw [← hC] at V2
 obtain ⟨gs, hgs⟩ := nXe (gB)
 rw [← hgs] at c36 c636 hgz hgq hE6L
 obtain ⟨ss, hss⟩ := nXe (sB)
 rw [← hss] at V4 V5 V8
 have hsz : ss.size ≤ 20000 := by rw [hss]; exact sB_size
 have hsl : ¬ 9223372036854775807 < ss.size + 1 := by omega
 obtain ⟨ts, hts⟩ := nXe (tB)
 rw [← hts] at V6 V7
 obtain ⟨GA, hGA⟩ := nXe (gr.A)
 have hGAn : GA.size = 36 := by rw [hGA]; unfold Gr'.A; rw [List.size_toArray, grF.len]
 have hGAc : GA.toList = gr.cs := by rw [hGA]; rfl
 have hGAb : Tryz.prog.built 66 [(0, .int .i64 2), (2, .int .i64 9), (3, .int .i64 1), (4, .agg C)] = some GA := by rw [hCL, hGA]; unfold Gr'.A Gr'.cs gr; rw [rootK_l, byV_bN, KeyN.root_s]; kernel_rfl
 have W2 := lh V2
 have W3 := lh V3
 have W4 := lh V4
 have W5 := lh V5
 have W6 := lh V6
 have W7 := lh V7
 have W8 := lh V8
 have W9 := lh V9
 have W10 := lh V10
 have W11 := lh V11
 have W12 := lh V12
 have HE0L := lh hE0L
 have HEZL := lh hEZL
 have HE6L := lh hE6L
 have Hset := lh hset
 have Hc2 := lh c2
 have Hc36 := lh c36
 have Hc636 := lh c636
 have HGAn := lh hGAn
 have HGAc' := lh (show GA.toList = [gr].flatMap Gr'.cs by rw [hGAc]; simp)
 have HGAb := lh hGAb
 have HV := lh hv
 have HK := lh hk
 clear hE0L hEZL hE6L hset c2 c36 c636 hGAc hGAb hGA hCL hE0 hEF hE6 hEZ hC hgs hss hts hv hk V2 V3 V4 V5 V6 V7 V8 V9 V10 V11 V12 hE0n hEFn hE6n hEZn hCn
 obtain ⟨w0, rfl⟩ : ∃ w0 : World, w0 = w := ⟨_, rfl⟩
 have HBL0 := lh (Below.refl w0.heap.size w0)
 have z0 := HBL0.out.size
 go_enter Tryz.func6, Tryz.ntmps6
 skip
 go_wp2_with (first | (refine wpList_store_rowA rfl _ _ _ rfl w0.heap.size E0 rfl (by rw [← HE0L.out]; rfl) _ _ (heap_new _ _) HE0S.out (by rw [← HE0N.out]; rfl) HE0O.out ?_) | fail)
 intro u1 hu1
 have hb : Below w0.heap.size w0 u1 := by rw [hu1.out]; exact below_row bAx (Nat.le_refl _) _
 have hy : u1.heap[w0.heap.size]? = some (.cells E0 27 (0, 0)) := by rw [hu1.out]; exact setRow_at (heap_new _ _)
 clear hu1
 obtain ⟨w1, hww⟩ : ∃ w', w' = u1 := ⟨_, rfl⟩
 rw [← hww] at hb hy ⊢
 clear hww
 obtain ⟨BE, hBE⟩ := nXe (w0.heap.size)
 rw [← hBE] at hy ⊢
 have gE : w0.heap.size ≤ BE := by omega
 clear hBE
 have Hyn := lh hy
 clear hy
 have HBL1 := tbB HBL0 hb
 have z1 := HBL1.out.size
 clear hb z0 
 have HE1 := lh Hyn.out
 have lE1 := lt_row HE1.out
 clear Hyn
 go_wp2_with fail
 obtain ⟨w2, hw2⟩ := nXe (w1.alloc (.cells #[.string ⟨#[115]⟩, .int .i64 1, .int .i64 0] 23))
 rw [← hw2]
 have hb : Below w1.heap.size w1 w2 := by rw [hw2]; exact bAx
 have hy : w2.heap[w1.heap.size]? = some (.cells #[.string ⟨#[115]⟩, .int .i64 1, .int .i64 0] 23 (0, 0)) := by rw [hw2]; exact heap_new _ _
 clear hw2
 obtain ⟨BY, hBY⟩ := nXe (w1.heap.size)
 rw [← hBY] at hy ⊢
 have gY : w0.heap.size ≤ BY := by omega
 clear hBY
 have Hyn := lh hy
 clear hy
 have HE2 := lh ((hb.block _ lE1).trans HE1.out)
 have lE2 := lt_row HE2.out
 have HBL2 := tbB HBL1 hb
 have z2 := HBL2.out.size
 clear hb z1 lE1
 have HY2 := lh Hyn.out
 have lY2 := lt_row HY2.out
 clear Hyn
 have eY : BY < w2.heap.size := lY2
 have eE : BE < w2.heap.size := lE2
 refine (Make_s w2 (HK.out.below HBL2.out)).mono ?_
 rintro e w3 ⟨R, v, rfl, hR, hb⟩
 have hRg := hR.ge
 have hRl := lt_row hR.row
 have HR3 := lh hR
 clear hR
 have HE3 := lh ((hb.block _ lE2).trans HE2.out)
 have lE3 := lt_row HE3.out
 have HY3 := lh ((hb.block _ lY2).trans HY2.out)
 have lY3 := lt_row HY3.out
 have HBL3 := tbB HBL2 hb
 have z3 := HBL3.out.size
 clear hb z2 lE2 lY2
 obtain ⟨cy3, fy3⟩ := row_facts HY3.out
 go_wp2_with fail
 refine (W2.out w3 (HK.out.below HBL3.out)).mono ?_
 rintro e w4 ⟨rfl, hb⟩
 have HE4 := lh ((hb.block _ lE3).trans HE3.out)
 have lE4 := lt_row HE4.out
 have HY4 := lh ((hb.block _ lY3).trans HY3.out)
 have lY4 := lt_row HY4.out
 have HR4 := lh (ring_below HR3.out hb)
 have HBL4 := tbB HBL3 hb
 have z4 := HBL4.out.size
 clear hb z3 lE3 lY3
 clear cy3 fy3
 go_wp2_with (first | (refine wpList_store_rowA rfl _ _ _ rfl w4.heap.size C rfl rfl _ _ (heap_new _ _) HCS.out (by rw [← HCN.out]; rfl) HCO.out ?_) | fail)
 intro u1 hu1
 have hb : Below w4.heap.size w4 u1 := by rw [hu1.out]; exact below_row bAx (Nat.le_refl _) _
 have hy : u1.heap[w4.heap.size]? = some (.cells C 25 (0, 0)) := by rw [hu1.out]; exact setRow_at (heap_new _ _)
 clear hu1
 obtain ⟨w5, hww⟩ : ∃ w', w' = u1 := ⟨_, rfl⟩
 rw [← hww] at hb hy ⊢
 clear hww
 obtain ⟨BT, hBT⟩ := nXe (w4.heap.size)
 rw [← hBT] at hy ⊢
 have gT : w0.heap.size ≤ BT := by omega
 have hRT : R < BT := by have := lt_row HR4.out.row; omega
 clear hBT
 have Hyn := lh hy
 clear hy
 have HE5 := lh ((hb.block _ lE4).trans HE4.out)
 have lE5 := lt_row HE5.out
 have HY5 := lh ((hb.block _ lY4).trans HY4.out)
 have lY5 := lt_row HY5.out
 have HR5 := lh (ring_below HR4.out hb)
 have HBL5 := tbB HBL4 hb
 have z5 := HBL5.out.size
 clear hb z4 lE4 lY4
 have HT5 := lh Hyn.out
 have lT5 := lt_row HT5.out
 clear Hyn
 go_wp2_with (first | (refine wpList_load_row rfl _ _ rfl BE rfl _ E0 (0, 0) _ HE5.out Tryz.underlying27 rfl HE0S.out ?_) | fail)
 refine (W3.out w2 w5 R v HR5.out (HK.out.below HBL5.out) (HV.out.below HBL5.out)).mono ?_
 rintro e w6 ⟨rfl, hE⟩
 have lE_ := lE5
 have lY_ := lY5
 have HE6 := lh (hE.blockOf HE5.out (fun h => by omega))
 have lE6 := lt_row HE6.out
 have HY6 := lh (hE.blockOf HY5.out (fun h => by omega))
 have lY6 := lt_row HY6.out
 have HT6 := lh (hE.blockOf HT5.out (fun h => by omega))
 have lT6 := lt_row HT6.out
 have HBL6 := lh (Bl.ext HBL5.out hE (fun k h1 h => by omega))
 have z6 := HBL6.out.size
 clear hE z5 lE5 lY5 lT5
 go_wp2_with (first | (refine wpList_store_rowA rfl _ _ _ rfl w6.heap.size EF rfl rfl _ _ (heap_new _ _) HEFS.out (by rw [← HEFN.out]; rfl) HEFO.out ?_) | fail)
 intro u1 hu1
 have hb : Below w6.heap.size w6 u1 := by rw [hu1.out]; exact below_row bAx (Nat.le_refl _) _
 have hy : u1.heap[w6.heap.size]? = some (.cells EF 27 (0, 0)) := by rw [hu1.out]; exact setRow_at (heap_new _ _)
 clear hu1
 obtain ⟨w7, hww⟩ : ∃ w', w' = u1 := ⟨_, rfl⟩
 rw [← hww] at hb hy ⊢
 clear hww
 obtain ⟨BF, hBF⟩ := nXe (w6.heap.size)
 rw [← hBF] at hy ⊢
 have gF : w0.heap.size ≤ BF := by omega
 have hEF : BE < BF := by have := lE6; omega
 clear hBF
 have Hyn := lh hy
 clear hy
 have HE7 := lh ((hb.block _ lE6).trans HE6.out)
 have lE7 := lt_row HE7.out
 have HY7 := lh ((hb.block _ lY6).trans HY6.out)
 have lY7 := lt_row HY7.out
 have HT7 := lh ((hb.block _ lT6).trans HT6.out)
 have lT7 := lt_row HT7.out
 have HBL7 := tbB HBL6 hb
 have z7 := HBL7.out.size
 clear hb z6 lE6 lY6 lT6
 have HF7 := lh Hyn.out
 have lF7 := lt_row HF7.out
 clear Hyn
 go_wp2_with (first | (refine wpList_load_row rfl _ _ rfl BT rfl _ C (0, 0) _ HT7.out Tryz.underlying25 rfl HCS.out ?_) | (refine wpList_buildC rfl 66 _ rfl GA (by first | exact HGAb.out | (go_simp; exact HGAb.out)) ?_) | (refine wpList_load_row rfl _ _ rfl BF rfl _ EF (0, 0) _ (heap_at HF7.out _) Tryz.underlying27 rfl HEFS.out ?_) | fail)
 rw [fold_any #[.int .i64 0, .int .i64 0, .int .i64 0, .int .i64 0, .int .u8 0, .int .u8 0, .int .u8 0, .int .u8 0, .int .u8 0, .int .u8 0, .int .u8 0, .int .u8 0, .int .u8 0, .int .u8 0, .int .u8 0, .int .u8 0, .int .u8 0, .int .u8 0, .int .u8 0, .int .u8 0, .int .u8 0, .int .u8 0, .int .u8 0, .int .u8 0, .int .u8 0, .int .u8 0, .int .u8 0, .int .u8 0, .int .u8 0, .int .u8 0, .int .u8 0, .int .u8 0, .int .u8 0, .int .u8 0, .int .u8 0, .int .u8 0] GA 36 rfl hGAn]
 obtain ⟨w8, hww⟩ : ∃ w', w' = w7.alloc (.cells GA 66) := ⟨_, rfl⟩
 rw [← hww]
 have hb : Below w7.heap.size w7 w8 := by rw [hww]; exact bAx
 have hy : w8.heap[w7.heap.size]? = some (.cells GA 66 (0, 0)) := by rw [hww]; exact heap_new _ _
 clear hww
 obtain ⟨BB, hBB⟩ := nXe (w7.heap.size)
 rw [← hBB] at hy ⊢
 have hFB : BF < BB := by have := lF7; omega
 clear hBB
 have Hyn := lh hy
 clear hy
 have HE8 := lh ((hb.block _ lE7).trans HE7.out)
 have lE8 := lt_row HE8.out
 have HY8 := lh ((hb.block _ lY7).trans HY7.out)
 have lY8 := lt_row HY8.out
 have HT8 := lh ((hb.block _ lT7).trans HT7.out)
 have lT8 := lt_row HT8.out
 have HF8 := lh ((hb.block _ lF7).trans HF7.out)
 have lF8 := lt_row HF8.out
 have HBL8 := tbB HBL7 hb
 have z8 := HBL8.out.size
 clear hb z7 lE7 lY7 lT7 lF7
 have HB8 := lh Hyn.out
 have lB8 := lt_row HB8.out
 clear Hyn
 refine (W4.out w8 (HV.out.below HBL8.out)).mono ?_
 rintro e w9 ⟨rfl, hb⟩
 have HE9 := lh ((hb.block _ lE8).trans HE8.out)
 have lE9 := lt_row HE9.out
 have HY9 := lh ((hb.block _ lY8).trans HY8.out)
 have lY9 := lt_row HY9.out
 have HT9 := lh ((hb.block _ lT8).trans HT8.out)
 have lT9 := lt_row HT9.out
 have HF9 := lh ((hb.block _ lF8).trans HF8.out)
 have lF9 := lt_row HF9.out
 have HB9 := lh ((hb.block _ lB8).trans HB8.out)
 have lB9 := lt_row HB9.out
 have HBL9 := tbB HBL8 hb
 have z9 := HBL9.out.size
 clear hb z8 lE8 lY8 lT8 lF8 lB8
 go_wp2_with fail
 refine (W5.out w9 (HV.out.below HBL9.out)).mono ?_
 rintro e w10 ⟨rfl, hb⟩
 have HE10 := lh ((hb.block _ lE9).trans HE9.out)
 have lE10 := lt_row HE10.out
 have HY10 := lh ((hb.block _ lY9).trans HY9.out)
 have lY10 := lt_row HY10.out
 have HT10 := lh ((hb.block _ lT9).trans HT9.out)
 have lT10 := lt_row HT10.out
 have HF10 := lh ((hb.block _ lF9).trans HF9.out)
 have lF10 := lt_row HF10.out
 have HB10 := lh ((hb.block _ lB9).trans HB9.out)
 have lB10 := lt_row HB10.out
 have HBL10 := tbB HBL9 hb
 have z10 := HBL10.out.size
 clear hb z9 lE9 lY9 lT9 lF9 lB9
 go_wp2_with (first | (refine wpList_store_rowA rfl _ _ _ rfl w10.heap.size EF rfl rfl _ _ (heap_new _ _) HEFS.out (by rw [← HEFN.out]; rfl) HEFO.out ?_) | fail)
 intro u1 hu1
 have hb : Below w10.heap.size w10 u1 := by rw [hu1.out]; exact below_row bAx (Nat.le_refl _) _
 have hy : u1.heap[w10.heap.size]? = some (.cells EF 27 (0, 0)) := by rw [hu1.out]; exact setRow_at (heap_new _ _)
 clear hu1
 obtain ⟨w11, hww⟩ : ∃ w', w' = u1 := ⟨_, rfl⟩
 rw [← hww] at hb hy ⊢
 clear hww
 obtain ⟨BG, hBG⟩ := nXe (w10.heap.size)
 rw [← hBG] at hy ⊢
 have gG : w0.heap.size ≤ BG := by omega
 have hFG : BF < BG := by have := lF10; omega
 clear hBG
 have Hyn := lh hy
 clear hy
 have HE11 := lh ((hb.block _ lE10).trans HE10.out)
 have lE11 := lt_row HE11.out
 have HY11 := lh ((hb.block _ lY10).trans HY10.out)
 have lY11 := lt_row HY11.out
 have HT11 := lh ((hb.block _ lT10).trans HT10.out)
 have lT11 := lt_row HT11.out
 have HF11 := lh ((hb.block _ lF10).trans HF10.out)
 have lF11 := lt_row HF11.out
 have HB11 := lh ((hb.block _ lB10).trans HB10.out)
 have lB11 := lt_row HB11.out
 have HBL11 := tbB HBL10 hb
 have z11 := HBL11.out.size
 clear hb z10 lE10 lY10 lT10 lF10 lB10
 have HG11 := lh Hyn.out
 have lG11 := lt_row HG11.out
 clear Hyn
 go_wp2_with (first | (refine wpList_load_row rfl _ _ rfl BF rfl _ EF (0, 0) _ HF11.out Tryz.underlying27 rfl HEFS.out ?_) | fail)
 refine (W6.out w11 (HV.out.below HBL11.out)).mono ?_
 rintro e w12 ⟨rfl, hb⟩
 have HE12 := lh ((hb.block _ lE11).trans HE11.out)
 have lE12 := lt_row HE12.out
 have HY12 := lh ((hb.block _ lY11).trans HY11.out)
 have lY12 := lt_row HY12.out
 have HT12 := lh ((hb.block _ lT11).trans HT11.out)
 have lT12 := lt_row HT12.out
 have HF12 := lh ((hb.block _ lF11).trans HF11.out)
 have lF12 := lt_row HF12.out
 have HB12 := lh ((hb.block _ lB11).trans HB11.out)
 have lB12 := lt_row HB12.out
 have HG12 := lh ((hb.block _ lG11).trans HG11.out)
 have lG12 := lt_row HG12.out
 have HBL12 := tbB HBL11 hb
 have z12 := HBL12.out.size
 clear hb z11 lE11 lY11 lT11 lF11 lB11 lG11
 go_wp2_with fail
 refine (W7.out w12 (HV.out.below HBL12.out)).mono ?_
 rintro e w13 ⟨rfl, hb⟩
 have HE13 := lh ((hb.block _ lE12).trans HE12.out)
 have lE13 := lt_row HE13.out
 have HY13 := lh ((hb.block _ lY12).trans HY12.out)
 have lY13 := lt_row HY13.out
 have HT13 := lh ((hb.block _ lT12).trans HT12.out)
 have lT13 := lt_row HT13.out
 have HF13 := lh ((hb.block _ lF12).trans HF12.out)
 have lF13 := lt_row HF13.out
 have HB13 := lh ((hb.block _ lB12).trans HB12.out)
 have lB13 := lt_row HB13.out
 have HG13 := lh ((hb.block _ lG12).trans HG12.out)
 have lG13 := lt_row HG13.out
 have HBL13 := tbB HBL12 hb
 have z13 := HBL13.out.size
 clear hb z12 lE12 lY12 lT12 lF12 lB12 lG12
 go_wp2_with (first | (refine wpList_store_rowA rfl _ _ _ rfl w13.heap.size E0 rfl rfl _ _ (heap_new _ _) HE0S.out (by rw [← HE0N.out]; rfl) HE0O.out ?_) | fail)
 intro u1 hu1
 have hb : Below w13.heap.size w13 u1 := by rw [hu1.out]; exact below_row bAx (Nat.le_refl _) _
 have hy : u1.heap[w13.heap.size]? = some (.cells E0 27 (0, 0)) := by rw [hu1.out]; exact setRow_at (heap_new _ _)
 clear hu1
 obtain ⟨w14, hww⟩ : ∃ w', w' = u1 := ⟨_, rfl⟩
 rw [← hww] at hb hy ⊢
 clear hww
 obtain ⟨BH, hBH⟩ := nXe (w13.heap.size)
 rw [← hBH] at hy ⊢
 have gH : w0.heap.size ≤ BH := by omega
 have hFH : BF < BH := by have := lF13; omega
 clear hBH
 have Hyn := lh hy
 clear hy
 have HE14 := lh ((hb.block _ lE13).trans HE13.out)
 have lE14 := lt_row HE14.out
 have HY14 := lh ((hb.block _ lY13).trans HY13.out)
 have lY14 := lt_row HY14.out
 have HT14 := lh ((hb.block _ lT13).trans HT13.out)
 have lT14 := lt_row HT14.out
 have HF14 := lh ((hb.block _ lF13).trans HF13.out)
 have lF14 := lt_row HF14.out
 have HB14 := lh ((hb.block _ lB13).trans HB13.out)
 have lB14 := lt_row HB14.out
 have HG14 := lh ((hb.block _ lG13).trans HG13.out)
 have lG14 := lt_row HG14.out
 have HBL14 := tbB HBL13 hb
 have z14 := HBL14.out.size
 clear hb z13 lE13 lY13 lT13 lF13 lB13 lG13
 have HH14 := lh Hyn.out
 have lH14 := lt_row HH14.out
 clear Hyn
 go_wp2_with fail
 refine (W8.out w14 (HV.out.below HBL14.out)).mono ?_
 rintro e w15 ⟨rfl, hb⟩
 have HE15 := lh ((hb.block _ lE14).trans HE14.out)
 have lE15 := lt_row HE15.out
 have HY15 := lh ((hb.block _ lY14).trans HY14.out)
 have lY15 := lt_row HY15.out
 have HT15 := lh ((hb.block _ lT14).trans HT14.out)
 have lT15 := lt_row HT15.out
 have HF15 := lh ((hb.block _ lF14).trans HF14.out)
 have lF15 := lt_row HF15.out
 have HB15 := lh ((hb.block _ lB14).trans HB14.out)
 have lB15 := lt_row HB15.out
 have HG15 := lh ((hb.block _ lG14).trans HG14.out)
 have lG15 := lt_row HG15.out
 have HH15 := lh ((hb.block _ lH14).trans HH14.out)
 have lH15 := lt_row HH15.out
 have HBL15 := tbB HBL14 hb
 have z15 := HBL15.out.size
 clear hb z14 lE14 lY14 lT14 lF14 lB14 lG14 lH14
 go_wp2_with (first | (refine wpList_store_rowA rfl _ _ _ rfl w15.heap.size EZ rfl rfl _ _ (heap_new _ _) HEZS.out (by rw [← HEZN.out]; rfl) HEZO.out ?_) | fail)
 intro u1 hu1
 have hb : Below w15.heap.size w15 u1 := by rw [hu1.out]; exact below_row bAx (Nat.le_refl _) _
 have hy : u1.heap[w15.heap.size]? = some (.cells EZ 27 (0, 0)) := by rw [hu1.out]; exact setRow_at (heap_new _ _)
 clear hu1
 obtain ⟨w16, hww⟩ : ∃ w', w' = u1 := ⟨_, rfl⟩
 rw [← hww] at hb hy ⊢
 clear hww
 obtain ⟨BQ, hBQ⟩ := nXe (w15.heap.size)
 rw [← hBQ] at hy ⊢
 have gQ : w0.heap.size ≤ BQ := by omega
 clear hBQ
 have Hyn := lh hy
 clear hy
 have HE16 := lh ((hb.block _ lE15).trans HE15.out)
 have lE16 := lt_row HE16.out
 have HY16 := lh ((hb.block _ lY15).trans HY15.out)
 have lY16 := lt_row HY16.out
 have HT16 := lh ((hb.block _ lT15).trans HT15.out)
 have lT16 := lt_row HT16.out
 have HF16 := lh ((hb.block _ lF15).trans HF15.out)
 have lF16 := lt_row HF16.out
 have HB16 := lh ((hb.block _ lB15).trans HB15.out)
 have lB16 := lt_row HB16.out
 have HG16 := lh ((hb.block _ lG15).trans HG15.out)
 have lG16 := lt_row HG16.out
 have HH16 := lh ((hb.block _ lH15).trans HH15.out)
 have lH16 := lt_row HH16.out
 have HBL16 := tbB HBL15 hb
 have z16 := HBL16.out.size
 clear hb z15 lE15 lY15 lT15 lF15 lB15 lG15 lH15
 have HQ16 := lh Hyn.out
 have lQ16 := lt_row HQ16.out
 clear Hyn
 go_wp2_with (first | (refine wpList_load_row rfl _ _ rfl BF rfl _ EF (0, 0) _ HF16.out Tryz.underlying27 rfl HEFS.out ?_) | fail)
 refine (W9.out w16 _ (HK.out.below HBL16.out) (HV.out.below HBL16.out) (by rw [← HGAc'.out]; exact sl_one HB16.out hGAn)).mono ?_
 rintro e w17 ⟨rfl, hb⟩
 have HE17 := lh ((hb.block _ lE16).trans HE16.out)
 have lE17 := lt_row HE17.out
 have HY17 := lh ((hb.block _ lY16).trans HY16.out)
 have lY17 := lt_row HY17.out
 have HT17 := lh ((hb.block _ lT16).trans HT16.out)
 have lT17 := lt_row HT17.out
 have HF17 := lh ((hb.block _ lF16).trans HF16.out)
 have lF17 := lt_row HF17.out
 have HB17 := lh ((hb.block _ lB16).trans HB16.out)
 have lB17 := lt_row HB17.out
 have HG17 := lh ((hb.block _ lG16).trans HG16.out)
 have lG17 := lt_row HG17.out
 have HH17 := lh ((hb.block _ lH16).trans HH16.out)
 have lH17 := lt_row HH17.out
 have HQ17 := lh ((hb.block _ lQ16).trans HQ16.out)
 have lQ17 := lt_row HQ17.out
 have HBL17 := tbB HBL16 hb
 have z17 := HBL17.out.size
 clear hb z16 lE16 lY16 lT16 lF16 lB16 lG16 lH16 lQ16
 have hne1 : ¬ BG = BF := by omega
 have hne2 : ¬ BF = BG := by omega
 obtain ⟨cy, fy⟩ := row_facts HF17.out
 have kF2 := (cy 2).trans Hc2.out
 have kF36 := (cy 36).trans Hc36.out
 have fF2 := fy 2
 obtain ⟨cx, fx⟩ := row_facts HG17.out
 have kG2 := (cx 2).trans Hc2.out
 have kG36 := (cx 36).trans Hc36.out
 clear cy fy cx fx
 have hXF := lh (show (w17.setCell ⟨BF, 2, none⟩ (.int .i64 6)).heap[BF]? = some (.cells E6 27 (0, 0)) by rw [← Hset.out]; exact heap_setCell_same HF17.out _)
 have hXH := lh (show (w17.setCell ⟨BF, 2, none⟩ (.int .i64 6)).heap[BH]? = some (.cells E0 27 (0, 0)) by rw [heap_setCell_far _ (by omega)]; exact HH17.out)
 have hXE := lh (show (w17.setCell ⟨BF, 2, none⟩ (.int .i64 6)).heap[BE]? = some (.cells E0 27 (0, 0)) by rw [heap_setCell_far _ (by omega)]; exact HE17.out)
 have hXB := lh (show (w17.setCell ⟨BF, 2, none⟩ (.int .i64 6)).heap[BB]? = some (.cells GA 66 (0, 0)) by rw [heap_setCell_far _ (by omega)]; exact HB17.out)
 have hXW := lh (show Below w0.heap.size w0 (w17.setCell ⟨BF, 2, none⟩ (.int .i64 6)) from HBL17.out.setCell (p := ⟨BF, 2, none⟩) (by show w0.heap.size ≤ BF; omega) _)
 go_wp2_with (first | (guard_target =~ wpList _ _ _ (_ :: _) _ _; refine Hid.out ?_) | fail)
 refine lh (lh ?_)
 iterate 11 go_step
 simp only [List.append_eq, List.cons_append, List.nil_append]
 go_wp2_with (first | (refine WireT.wpList_load_rowG (by first | rfl | kernel_rfl) _ _ rfl BH rfl _ E0 (0, 0) _ hXH.out Tryz.underlying27 rfl HE0S.out ?_) | (refine WireT.wpList_load_rowG (by first | rfl | kernel_rfl) _ _ rfl BE rfl _ E0 (0, 0) _ hXE.out Tryz.underlying27 rfl HE0S.out ?_) | (refine WireT.wpList_load_rowG (by first | rfl | kernel_rfl) _ _ rfl BF rfl _ E6 (0, 0) _ hXF.out Tryz.underlying27 rfl HE6S.out ?_) | fail)
 refine (W10.out _ _ (HK.out.below hXW.out) (HV.out.below hXW.out) (by rw [← HGAc'.out]; exact sl_one hXB.out hGAn)).mono ?_
 rintro e wa ⟨rfl, hb⟩
 have hYF := kpB hb hXF
 have hYB := kpB hb hXB
 have hYW := tbB hXW hb
 clear hb
 go_wp2_with (first | (refine WireT.wpList_load_rowG (by first | rfl | kernel_rfl) _ _ rfl BF rfl _ E6 (0, 0) _ hYF.out Tryz.underlying27 rfl HE6S.out ?_) | fail)
 refine (W11.out _ _ (HK.out.below hYW.out) (HV.out.below hYW.out) (by rw [← HGAc'.out]; exact sl_one hYB.out hGAn)).mono ?_
 rintro e wb ⟨rfl, hb⟩
 have hZW := tbB hYW hb
 clear hb
 go_wp2_with fail
 rw [HEZL.out]
 refine (W12.out _ (HV.out.below hZW.out)).mono ?_
 rintro e wc ⟨rfl, hb⟩
 have hUW := tbB hZW hb
 clear hb
 go_wp2
 go_ret
 exact ⟨rfl, hUW.out⟩
end Go.Proofs.YtkcikadgnnjjjaaGreatDoor.EntQ
