/-
  WHAT IS PROVED: the document's own bytes of a head, and its head of an entry; the statement's function that compares heads with the document's own answers answers true. Condition: what each theorem names.
-/
import Derived.Test.YtdmonfimdinkeaaGreatDoorRefL
import Derived.Test.YtdmonfimdinkeaaGreatDoorEntZ
import Derived.Test.YtdmonfimdinkeaaGreatDoorHdQ
namespace Go.Proofs.YtdmonfimdinkeaaGreatDoor.HdU
open Go Go.RowKit Go.Shelf Go.Proofs.YtdmonfimdinkeaaGreatDoor Go.Proofs.YtdmonfimdinkeaaGreatDoor.OctetS Go.Proofs.YtdmonfimdinkeaaGreatDoor.IdentS Go.Proofs.YtdmonfimdinkeaaGreatDoor.EntS Go.Proofs.YtdmonfimdinkeaaGreatDoor.OctP Go.Proofs.YtdmonfimdinkeaaGreatDoor.OctQ Go.Proofs.YtdmonfimdinkeaaGreatDoor.OctG Go.Proofs.YtdmonfimdinkeaaGreatDoor.IdentP Go.Proofs.YtdmonfimdinkeaaGreatDoor.EntP Go.Proofs.YtdmonfimdinkeaaGreatDoor.EventC Go.Proofs.YtdmonfimdinkeaaGreatDoor.ShaA Go.Proofs.YtdmonfimdinkeaaGreatDoor.Steps Go.Proofs.YtdmonfimdinkeaaGreatDoor.KeyA Go.Proofs.YtdmonfimdinkeaaGreatDoor.KeyS Go.Proofs.YtdmonfimdinkeaaGreatDoor.KeyK Go.Proofs.YtdmonfimdinkeaaGreatDoor.TreeA Go.Proofs.YtdmonfimdinkeaaGreatDoor.WireT Go.Proofs.YtdmonfimdinkeaaGreatDoor.HdT
set_option linter.unusedVariables false
set_option linter.unusedSimpArgs false

set_option maxRecDepth 100000 in
set_option maxHeartbeats 4000000 in
theorem R_Bytes (w : World) (p : Array Value) (r : ByteArray) (ep ix : Int) (pv : List UInt8) (s : ByteArray) (hp : HdP p r ep ix pv s) (hv : VarsI w) (hr : r.size ≤ 140737488351232) (hs : s.size ≤ maxLen) :
    Calls Tryz.prog 11 #[.agg p] w (KeyA.RB (.tuple #[.string (bsOf (HdS.bytesW (hdOf r ep ix pv s)).1), .int .i64 (HdS.bytesW (hdOf r ep ix pv s)).2]) w) := by
  have hT := fun w => R_Text w p r ep ix pv s hp hr hs
  unfold HdS.textOf at hT
  rw [hbytes_ok]
  have hps := hp.size
  have hpi : (Tryz.prog.info? 25).map (·.size) = some 36 := by kernel_rfl
  rw [← hps] at hpi
  have HI := Lib.hid hpi
  have p35 : p[35]? = some (.string s) := by
    rw [hp.eq]
    unfold hdA
    have hl : (byV pv).length = 32 := by rw [byV_length, hp.len]
    simp [hl]
  obtain ⟨w0, hw0⟩ : ∃ w0, w0 = w.alloc (.cells p 25) := ⟨_, rfl⟩
  have hb0 : Below w.heap.size w w0 := by rw [hw0]; exact (Below.refl _ w).alloc (Nat.le_refl _) _
  have HX0 := Lib.hid (show w0.heap[w.heap.size]? = some (.cells p 25 (0, 0)) by rw [hw0]; exact heap_new _ _)
  have HBL0 := Lib.hid hb0
  have HW0 := Lib.hid hw0
  have HV0 := Lib.hid (hv.below hb0)
  cases hchk : checkH (hdOf r ep ix pv s)
  · skip
    rw [hchk] at hT
    rw [if_neg (by simp)]
    have HT := Lib.hid hT
    clear hT hchk hr hs hp hb0 hv hw0 hpi hps p35
    go_enter Tryz.func11, Tryz.ntmps11
    go_wp2_with (first | (rw [← HW0.out]; refine wpList_load_row rfl _ _ rfl w.heap.size rfl _ p (0, 0) _ HX0.out Tryz.underlying25 rfl HI.out ?_) | fail)
    refine (HT.out w0).mono ?_
    rintro e' w1 ⟨rfl, hb⟩
    have HBL1 := Lib.hid (HBL0.out.trans (hb.mono HBL0.out.size))
    clear hb
    unfold whyOf
    go_wp2
    go_ret2
    exact ⟨rfl, HBL1.out⟩
  · skip
    rw [hchk] at hT
    rw [if_pos rfl] at hT ⊢
    have hR := HdS.check_iff.1 hchk
    have hlen := hd_len hR hp.len
    have hsig := hR.sig
    have hbf : (HdS.text (hdOf r ep ix pv s)).length ≤ 8192 → fits [HdS.text (hdOf r ep ix pv s), bl s] = true := fun h => HdS.bytes_fits hR h
    have hbe : HdS.bytesE (hdOf r ep ix pv s) = OctetS.list [HdS.text (hdOf r ep ix pv s), bl s] := rfl
    rw [hbe]
    obtain ⟨t, ht⟩ : ∃ t, t = HdS.text (hdOf r ep ix pv s) := ⟨_, rfl⟩
    rw [← ht] at hT hlen hbf ⊢
    obtain ⟨Tb, hTb⟩ : ∃ Tb, Tb = bsOf t := ⟨_, rfl⟩
    have hTl : bl Tb = t := by rw [hTb, bl_bsOf]
    have hTs : Tb.size = t.length := by rw [hTb, size_bsOf]
    rw [← hTb] at hT
    have hL : ∀ w v, Rd w v [Tb, s] → Calls Tryz.prog 43 #[v] w (KeyA.RB (.tuple #[.string (bsOf (if t.length ≤ 8192 then (OctetS.list [t, bl s], (0 : Int)) else ([], 7)).1), .int .i64 (if t.length ≤ 8192 then (OctetS.list [t, bl s], (0 : Int)) else ([], 7)).2]) w) := fun w v hrd => by
      by_cases h8 : t.length ≤ 8192
      · rw [if_pos h8]
        have := Ref1L.List_ok w v [Tb, s] hrd (by simp only [List.map_cons, List.map_nil, hTl]; exact hbf h8)
        simp only [List.map_cons, List.map_nil, hTl] at this
        exact this
      · rw [if_neg h8]
        exact EntZ.List_long w v Tb [s] hrd (by simp) (by omega) (by omega)
    obtain ⟨O, hO⟩ : ∃ O, O = bsOf (if t.length ≤ 8192 then (OctetS.list [t, bl s], (0 : Int)) else ([], 7)).1 := ⟨_, rfl⟩
    obtain ⟨E, hE⟩ : ∃ E, E = (if t.length ≤ 8192 then (OctetS.list [t, bl s], (0 : Int)) else ([], 7)).2 := ⟨_, rfl⟩
    rw [← hO, ← hE] at hL ⊢
    have HT := Lib.hid hT
    have HL := Lib.hid hL
    clear hL hO hE hT hTb hTl hTs ht hbf hbe hlen hsig hR hchk hr hs hp hb0 hv hw0 hpi hps
    go_enter Tryz.func11, Tryz.ntmps11
    go_wp2_with (first | (rw [← HW0.out]; refine wpList_load_row rfl _ _ rfl w.heap.size rfl _ p (0, 0) _ HX0.out Tryz.underlying25 rfl HI.out ?_) | fail)
    refine (HT.out w0).mono ?_
    rintro e' w1 ⟨rfl, hb⟩
    have HBL1 := Lib.hid (HBL0.out.trans (hb.mono HBL0.out.size))
    have HX1 := Lib.hid ((hb.block _ (lt_row HX0.out)).trans HX0.out)
    clear hb
    have hc35 : w1.cell? ⟨w.heap.size, 35, none⟩ = some (.string s) := by rw [cell_row HX1.out]; exact p35
    unfold whyOf
    go_wp2_with fail
    refine (HL.out _ _ (EventB.sl_built (n := 2) (heap_new _ _) rfl (by simp [maxLen]))).mono ?_
    rintro e' w2 ⟨rfl, hb⟩
    have HBL2 := Lib.hid (HBL1.out.trans ((((Below.refl _ w1).alloc (Nat.le_refl _) _).trans (hb.mono (by simp))).mono HBL1.out.size))
    clear hb
    go_wp2
    go_ret2
    exact ⟨rfl, HBL2.out⟩

set_option maxRecDepth 100000 in
set_option maxHeartbeats 4000000 in
theorem R_Of (w : World) (p : Array Value) (r : ByteArray) (ep ix : Int) (pv : List UInt8) (e s : ByteArray) (hp : EntP p r ep ix pv e s) (hv : VarsI w) (hk : VarsH w) (hr : r.size ≤ 140737488351232) (he : e.size ≤ maxLen) (hs : s.size ≤ maxLen) :
    Calls Tryz.prog 17 #[.agg p] w (RB (.tuple #[.agg (ofA r ep ix (entOf r ep ix pv e s)), .int .i64 (whyOf (EntS.checkB (entOf r ep ix pv e s)))]) w) := by
  have hS := fun w hv hk => EntZ.Sum_ok w p r ep ix pv e s hp hv hk hr he hs
  have hps := hp.size
  have hpi : (Tryz.prog.info? 27).map (·.size) = some 37 := by kernel_rfl
  rw [← hps] at hpi
  have HI := Lib.hid hpi
  have p0 := hp.c0
  have p1 := hp.c1
  have p2 := hp.c2
  unfold ofA
  obtain ⟨x, hx⟩ : ∃ x, x = entOf r ep ix pv e s := ⟨_, rfl⟩
  rw [← hx] at hS ⊢
  obtain ⟨X, hX⟩ : ∃ X, X = EntX.sumE x := ⟨_, rfl⟩
  obtain ⟨C, hC⟩ : ∃ C, C = X.A := ⟨_, rfl⟩
  rw [← hX, ← hC] at hS
  have HCS : Hid ((Tryz.prog.info? 23).map (·.size) = some C.size) := Lib.hid (by rw [hC]; exact X.info)
  have HCN : Hid (32 = C.size) := Lib.hid (by rw [hC]; exact X.size.symm)
  have HCO : Hid (C.all (·.oneCell') = true) := Lib.hid (by rw [hC]; exact X.one)
  obtain ⟨Z, hZ⟩ : ∃ Z, Z = hdZ := ⟨_, rfl⟩
  have HLIT : Hid ((#[.string ⟨#[]⟩, .int .i64 0, .int .i64 0, .int .u8 0, .int .u8 0, .int .u8 0, .int .u8 0, .int .u8 0, .int .u8 0, .int .u8 0, .int .u8 0, .int .u8 0, .int .u8 0, .int .u8 0, .int .u8 0, .int .u8 0, .int .u8 0, .int .u8 0, .int .u8 0, .int .u8 0, .int .u8 0, .int .u8 0, .int .u8 0, .int .u8 0, .int .u8 0, .int .u8 0, .int .u8 0, .int .u8 0, .int .u8 0, .int .u8 0, .int .u8 0, .int .u8 0, .int .u8 0, .int .u8 0, .int .u8 0, .string ⟨#[]⟩] : Array Value) = Z) := Lib.hid (by rw [hZ]; kernel_rfl)
  have HZN : Hid (Z.size = 36) := Lib.hid (by rw [hZ]; rfl)
  have HZS : Hid ((Tryz.prog.info? 25).map (·.size) = some Z.size) := Lib.hid (by rw [HZN.out]; kernel_rfl)
  have HZO : Hid (Z.all (·.oneCell') = true) := Lib.hid (by rw [hZ]; exact hdA_one _ _ _ _ _)
  obtain ⟨Y, hY⟩ : ∃ Y, Y = hdA r ep ix X.l ⟨#[]⟩ := ⟨_, rfl⟩
  have hYn : Y.size = 36 := by rw [hY]; exact hdA_size X.len
  have HYS : Hid ((Tryz.prog.info? 25).map (·.size) = some Y.size) := Lib.hid (by rw [hYn]; kernel_rfl)
  have HYN : Hid (Z.size = Y.size) := Lib.hid (by rw [hYn]; exact HZN.out)
  have HYO : Hid (Y.all (·.oneCell') = true) := Lib.hid (by rw [hY]; exact hdA_one _ _ _ _ _)
  have HYB : Hid (Tryz.prog.built 25 [(0, .string r), (1, .int .i64 ep), (2, .int .i64 ix), (3, .agg C)] = some Y) := Lib.hid (built_hd r ep ix X C Y hC hY)
  obtain ⟨w0, hw0⟩ : ∃ w0, w0 = (w.alloc (.cells p 27)).alloc (.cells Z 25) := ⟨_, rfl⟩
  have hb0 : Below w.heap.size w w0 := by rw [hw0]; exact ((Below.refl _ w).alloc (Nat.le_refl _) _).alloc (by simp) _
  have HX0 := Lib.hid (show w0.heap[w.heap.size]? = some (.cells p 27 (0, 0)) by rw [hw0]; exact heap_at (heap_new _ _) _)
  have HZ0 := Lib.hid (show w0.heap[w.heap.size + 1]? = some (.cells Z 25 (0, 0)) by rw [hw0]; exact heap_new' _ (by simp))
  have HBL0 := Lib.hid hb0
  have HW0 := Lib.hid hw0
  have HV0 := Lib.hid (hv.below hb0)
  have HK0 := Lib.hid (hk.below hb0)
  have HS := Lib.hid hS
  have hres : (if EntS.checkB x = true then hdA r ep ix (EntX.sumE x).l ⟨#[]⟩ else hdZ) = (if EntS.checkB x = true then Y else Z) := by rw [hY, hX, hZ]
  rw [hres]
  obtain ⟨c, hc⟩ : ∃ c, c = EntS.checkB x := ⟨_, rfl⟩
  rw [← hc] at HS ⊢
  have P0 := Lib.hid p0
  have P1 := Lib.hid p1
  have P2 := Lib.hid p2
  clear hS hps hpi p0 p1 p2 hX hC hZ hY hYn hw0 hb0 hv hk hr he hs hp hres hc hx
  cases c
  · rw [if_neg (by simp)]
    have HS := Lib.hid (show ∀ w, VarsI w → VarsH w → Calls Tryz.prog 48 #[.agg p] w (RB (.tuple #[.agg C, .int .i64 2]) w) from HS.out)
    change Calls _ _ _ _ (RB (.tuple #[.agg Z, .int .i64 2]) w)
    go_enter Tryz.func17, Tryz.ntmps17
    go_wp2_with (first | (rw [HLIT.out, ← HW0.out]; refine wpList_load_row rfl _ _ rfl w.heap.size rfl _ p (0, 0) _ HX0.out Tryz.underlying27 rfl HI.out ?_) | fail)
    refine (HS.out w0 HV0.out HK0.out).mono ?_
    rintro e' w1 ⟨rfl, hb⟩
    have HBL1 := Lib.hid (HBL0.out.trans (hb.mono HBL0.out.size))
    have HX1 := Lib.hid ((hb.block _ (lt_row HX0.out)).trans HX0.out)
    have HZ1 := Lib.hid ((hb.block _ (lt_row HZ0.out)).trans HZ0.out)
    have hlz := lt_row HZ1.out
    clear hb
    go_wp2_with (first | (refine wpList_store_rowA rfl _ _ _ rfl w1.heap.size C rfl rfl _ _ (heap_new _ _) HCS.out (by rw [← HCN.out]; rfl) HCO.out ?_) | fail)
    intro u1 hu1
    have hb : Below w1.heap.size w1 u1 := by rw [hu1.out]; exact below_row ((Below.refl _ _).alloc (Nat.le_refl _) _) (Nat.le_refl _) _
    have hy : u1.heap[w1.heap.size]? = some (.cells C 23 (0, 0)) := by rw [hu1.out]; exact setRow_at (heap_new _ _)
    clear hu1
    obtain ⟨w2, hww⟩ : ∃ w', w' = u1 := ⟨_, rfl⟩
    rw [← hww] at hb hy ⊢
    clear hww
    have HBL2 := Lib.hid (HBL1.out.trans (hb.mono HBL1.out.size))
    have hx2 := (hb.block _ (lt_row HX1.out)).trans HX1.out
    have HZ2 := Lib.hid ((hb.block _ (lt_row HZ1.out)).trans HZ1.out)
    have HC2 := Lib.hid hy
    have k0 : w2.cell? ⟨w.heap.size, 0, none⟩ = some (.string r) := by rw [cell_row hx2]; exact P0.out
    have k1 : w2.cell? ⟨w.heap.size, 1, none⟩ = some (.int .i64 ep) := by rw [cell_row hx2]; exact P1.out
    have k2 : w2.cell? ⟨w.heap.size, 2, none⟩ = some (.int .i64 ix) := by rw [cell_row hx2]; exact P2.out
    clear hb hy hx2
    go_wp2_with (first | (refine wpList_store_rowA rfl _ _ _ rfl (w.heap.size + 1) Z rfl (by rw [← HLIT.out]; rfl) _ _ HZ2.out HZS.out rfl HZO.out ?_) | fail)
    intro wf hwf
    go_wp2
    refine bodyPost_ret (v := .tuple #[.agg Z, .int .i64 2]) (WireT.results_cell_slot rfl _ _ (w.heap.size + 1) 25 Z (0, 0) _ rfl (by rw [hwf.out]; exact setRow_at HZ2.out) Tryz.underlying25 rfl HZS.out rfl) rfl ⟨rfl, by rw [hwf.out]; exact below_row HBL2.out (by omega) _⟩
  · rw [if_pos rfl]
    have HS := Lib.hid (show ∀ w, VarsI w → VarsH w → Calls Tryz.prog 48 #[.agg p] w (RB (.tuple #[.agg C, .int .i64 0]) w) from HS.out)
    change Calls _ _ _ _ (RB (.tuple #[.agg Y, .int .i64 0]) w)
    go_enter Tryz.func17, Tryz.ntmps17
    go_wp2_with (first | (rw [HLIT.out, ← HW0.out]; refine wpList_load_row rfl _ _ rfl w.heap.size rfl _ p (0, 0) _ HX0.out Tryz.underlying27 rfl HI.out ?_) | fail)
    refine (HS.out w0 HV0.out HK0.out).mono ?_
    rintro e' w1 ⟨rfl, hb⟩
    have HBL1 := Lib.hid (HBL0.out.trans (hb.mono HBL0.out.size))
    have HX1 := Lib.hid ((hb.block _ (lt_row HX0.out)).trans HX0.out)
    have HZ1 := Lib.hid ((hb.block _ (lt_row HZ0.out)).trans HZ0.out)
    have hlz := lt_row HZ1.out
    clear hb
    go_wp2_with (first | (refine wpList_store_rowA rfl _ _ _ rfl w1.heap.size C rfl rfl _ _ (heap_new _ _) HCS.out (by rw [← HCN.out]; rfl) HCO.out ?_) | fail)
    intro u1 hu1
    have hb : Below w1.heap.size w1 u1 := by rw [hu1.out]; exact below_row ((Below.refl _ _).alloc (Nat.le_refl _) _) (Nat.le_refl _) _
    have hy : u1.heap[w1.heap.size]? = some (.cells C 23 (0, 0)) := by rw [hu1.out]; exact setRow_at (heap_new _ _)
    clear hu1
    obtain ⟨w2, hww⟩ : ∃ w', w' = u1 := ⟨_, rfl⟩
    rw [← hww] at hb hy ⊢
    clear hww
    have HBL2 := Lib.hid (HBL1.out.trans (hb.mono HBL1.out.size))
    have hx2 := (hb.block _ (lt_row HX1.out)).trans HX1.out
    have HZ2 := Lib.hid ((hb.block _ (lt_row HZ1.out)).trans HZ1.out)
    have HC2 := Lib.hid hy
    have k0 : w2.cell? ⟨w.heap.size, 0, none⟩ = some (.string r) := by rw [cell_row hx2]; exact P0.out
    have k1 : w2.cell? ⟨w.heap.size, 1, none⟩ = some (.int .i64 ep) := by rw [cell_row hx2]; exact P1.out
    have k2 : w2.cell? ⟨w.heap.size, 2, none⟩ = some (.int .i64 ix) := by rw [cell_row hx2]; exact P2.out
    clear hb hy hx2
    go_wp2_with (first | (refine wpList_load_row rfl _ _ rfl w1.heap.size rfl _ C (0, 0) _ HC2.out Tryz.underlying23 rfl HCS.out ?_) | (refine EntQ.wpList_buildC rfl 25 _ rfl Y (by first | exact HYB.out | (go_simp; exact HYB.out)) ?_) | (refine wpList_store_rowA rfl _ _ _ rfl (w.heap.size + 1) Y rfl rfl _ _ HZ2.out HYS.out HYN.out HYO.out ?_) | fail)
    intro wf hwf
    go_wp2
    refine bodyPost_ret (v := .tuple #[.agg Y, .int .i64 0]) (WireT.results_cell_slot rfl _ _ (w.heap.size + 1) 25 Y (0, 0) _ rfl (by rw [hwf.out]; exact setRow_at HZ2.out) Tryz.underlying25 rfl HYS.out rfl) rfl ⟨rfl, by rw [hwf.out]; exact below_row HBL2.out (by omega) _⟩

end Go.Proofs.YtdmonfimdinkeaaGreatDoor.HdU

namespace Go.Proofs.YtdmonfimdinkeaaGreatDoor.HdN
open Go Go.RowKit Go.Shelf Go.Proofs.YtdmonfimdinkeaaGreatDoor Go.Proofs.YtdmonfimdinkeaaGreatDoor.OctetS Go.Proofs.YtdmonfimdinkeaaGreatDoor.IdentS Go.Proofs.YtdmonfimdinkeaaGreatDoor.EntS Go.Proofs.YtdmonfimdinkeaaGreatDoor.OctG Go.Proofs.YtdmonfimdinkeaaGreatDoor.IdentP Go.Proofs.YtdmonfimdinkeaaGreatDoor.EntP Go.Proofs.YtdmonfimdinkeaaGreatDoor.EventC Go.Proofs.YtdmonfimdinkeaaGreatDoor.ShaA Go.Proofs.YtdmonfimdinkeaaGreatDoor.Steps Go.Proofs.YtdmonfimdinkeaaGreatDoor.KeyA Go.Proofs.YtdmonfimdinkeaaGreatDoor.TreeA Go.Proofs.YtdmonfimdinkeaaGreatDoor.WireT Go.Proofs.YtdmonfimdinkeaaGreatDoor.HdL Go.Proofs.YtdmonfimdinkeaaGreatDoor.HdQ Go.Proofs.YtdmonfimdinkeaaGreatDoor.HdI
set_option linter.unusedVariables false
set_option linter.unusedSimpArgs false
attribute [-go_sem] run_equalIn_agg

set_option maxRecDepth 100000 in
set_option maxHeartbeats 4000000 in
theorem tells_ok (w : World) (hv : VarsI w) (hk : VarsH w) (p : Array Value) (r : ByteArray) (ep ix : Int) (pv : List UInt8) (sg : ByteArray) (hp : HdP p r ep ix pv sg) (s : ByteArray) (q : Array Value) (r' : ByteArray) (ep' ix' : Int) (pv' : List UInt8) (e' sg' : ByteArray) (hq : EntP q r' ep' ix' pv' e' sg') (hr : r.size ≤ 140737488351232) (hs : sg.size ≤ maxLen) (ht : s.size ≤ 140737488351232) (hr' : r'.size ≤ 140737488351232) (he' : e'.size ≤ maxLen) (hs' : sg'.size ≤ maxLen) :
    Calls Tryz.prog 3 #[.agg p, .string s, .agg q] w (RB (.bool true) w) := by
  obtain ⟨T1, W1, a1, a2⟩ : ∃ (T : ByteArray) (E : Int), (∀ w, VarsI w → Calls Tryz.prog 8 #[.agg p] w (RB (.tuple #[.string T, .int .i64 E]) w)) ∧ (∀ w, Calls Tryz.prog 9 #[.agg p] w (RB (.tuple #[.string T, .int .i64 E]) w)) := ⟨_, _, fun w hv => HdT.P_Text w p r ep ix pv sg hp hv hr hs, fun w => HdT.R_Text w p r ep ix pv sg hp hr hs⟩
  obtain ⟨T3, W3, c1, c2⟩ : ∃ (T : ByteArray) (E : Int), (∀ w, VarsI w → Calls Tryz.prog 10 #[.agg p] w (RB (.tuple #[.string T, .int .i64 E]) w)) ∧ (∀ w, VarsI w → Calls Tryz.prog 11 #[.agg p] w (RB (.tuple #[.string T, .int .i64 E]) w)) := ⟨_, _, fun w hv => HdT.P_Bytes w p r ep ix pv sg hp hv hr hs, fun w hv => HdU.R_Bytes w p r ep ix pv sg hp hv hr hs⟩
  obtain ⟨X, W4, r4, ep4, ix4, pv4, g4, hX, _, _, hV4, _⟩ := parse_row s
  have d1 := fun w hv => WireC.Parse_ok w s ht hv
  have d2 := fun w => WireF.Parse_ok w s ht
  rw [hV4] at d1 d2
  obtain ⟨Y, W5, r5, ep5, ix5, pv5, g5, hY, hV5⟩ := read_row s
  have f1 := fun w hv => WireC.Read_ok w s ht hv
  have f2 := fun w => WireF.Read_ok w s ht
  rw [hV5] at f1 f2
  obtain ⟨F, hFe⟩ : ∃ F, F = HdT.ofA r' ep' ix' (entOf r' ep' ix' pv' e' sg') := ⟨_, rfl⟩
  obtain ⟨W7, o1, o2⟩ : ∃ (E : Int), (∀ w, VarsI w → VarsH w → Calls Tryz.prog 16 #[.agg q] w (RB (.tuple #[.agg F, .int .i64 E]) w)) ∧ (∀ w, VarsI w → VarsH w → Calls Tryz.prog 17 #[.agg q] w (RB (.tuple #[.agg F, .int .i64 E]) w)) := ⟨_, by rw [hFe]; exact fun w hv hk => HdT.P_Of w q r' ep' ix' pv' e' sg' hq hv hk hr' he' hs', by rw [hFe]; exact fun w hv hk => HdU.R_Of w q r' ep' ix' pv' e' sg' hq hv hk hr' he' hs'⟩
  obtain ⟨rF, epF, ixF, pvF, gF, hFr⟩ := ofA_row r' ep' ix' (entOf r' ep' ix' pv' e' sg')
  rw [← hFe] at hFr
  obtain ⟨W6, g1, g2⟩ : ∃ (E : Int), (∀ w, VarsI w → Calls Tryz.prog 18 #[.agg p] w (RB (.int .i64 E) w)) ∧ (∀ w, Calls Tryz.prog 19 #[.agg p] w (RB (.int .i64 E) w)) := ⟨_, fun w hv => HdT.P_Check w p r ep ix pv sg hp hv hr hs, fun w => HdT.R_Check w p r ep ix pv sg hp hr hs⟩
  have hqX : ∀ w, (Op.equalIn 10000 25 (.agg X) (.agg X)).run Tryz.prog w = .ok true w := fun w => eq_hd hX w
  have hqY : ∀ w, (Op.equalIn 10000 25 (.agg Y) (.agg Y)).run Tryz.prog w = .ok true w := fun w => eq_hd hY w
  have hqF : ∀ w, (Op.equalIn 10000 25 (.agg F) (.agg F)).run Tryz.prog w = .ok true w := fun w => eq_hd hFr w
  have HpS : Hid ((Tryz.prog.info? 25).map (·.size) = some p.size) := Lib.hid (by rw [hp.size]; kernel_rfl)
  have HpN : Hid (36 = p.size) := Lib.hid (hp.size).symm
  have HpO : Hid (p.all (·.oneCell') = true) := Lib.hid (by rw [hp.eq]; exact hdA_one _ _ _ _ _)
  have HXS : Hid ((Tryz.prog.info? 25).map (·.size) = some X.size) := Lib.hid (by rw [hX.size]; kernel_rfl)
  have HXN : Hid (36 = X.size) := Lib.hid (hX.size).symm
  have HXO : Hid (X.all (·.oneCell') = true) := Lib.hid (by rw [hX.eq]; exact hdA_one _ _ _ _ _)
  have HYS : Hid ((Tryz.prog.info? 25).map (·.size) = some Y.size) := Lib.hid (by rw [hY.size]; kernel_rfl)
  have HYN : Hid (36 = Y.size) := Lib.hid (hY.size).symm
  have HYO : Hid (Y.all (·.oneCell') = true) := Lib.hid (by rw [hY.eq]; exact hdA_one _ _ _ _ _)
  have HFS : Hid ((Tryz.prog.info? 25).map (·.size) = some F.size) := Lib.hid (by rw [hFr.size]; kernel_rfl)
  have HFN : Hid (36 = F.size) := Lib.hid (hFr.size).symm
  have HFO : Hid (F.all (·.oneCell') = true) := Lib.hid (by rw [hFr.eq]; exact hdA_one _ _ _ _ _)
  have HqS : Hid ((Tryz.prog.info? 27).map (·.size) = some q.size) := Lib.hid (by rw [hq.size]; kernel_rfl)
  have A1 := Lib.hid a1
  have A2 := Lib.hid a2
  have C1 := Lib.hid c1
  have C2 := Lib.hid c2
  have D1 := Lib.hid d1
  have D2 := Lib.hid d2
  have F1 := Lib.hid f1
  have F2 := Lib.hid f2
  have G1 := Lib.hid g1
  have G2 := Lib.hid g2
  have O1 := Lib.hid o1
  have O2 := Lib.hid o2
  have HQX := Lib.hid hqX
  have HQY := Lib.hid hqY
  have HQF := Lib.hid hqF
  have HGE := Lib.hid EqHd.guardHd
  have HV := Lib.hid hv
  have HK := Lib.hid hk
  clear a1 a2 c1 c2 d1 d2 f1 f2 g1 g2 o1 o2 hqX hqY hqF hX hY hFr hFe hV4 hV5 hp hq hr hs hr' he' hs' hv hk ht
  obtain ⟨w0, hw0⟩ : ∃ w0, w0 = (w.alloc (.cells p 25)).alloc (.cells q 27) := ⟨_, rfl⟩
  have hb0 : Below w.heap.size w w0 := by rw [hw0]; exact ((Below.refl _ _).alloc (Nat.le_refl _) _).alloc (by simp) _
  have HP0 : Hid (w0.heap[w.heap.size]? = some (.cells p 25 (0, 0))) := Lib.hid (by rw [hw0]; exact heap_at (heap_new _ _) _)
  have HO0 : Hid (w0.heap[w.heap.size + 1]? = some (.cells q 27 (0, 0))) := Lib.hid (by rw [hw0]; exact heap_new' _ (by simp))
  have lP0 := lt_row HP0.out
  have lO0 := lt_row HO0.out
  have HBL0 := Lib.hid hb0
  have HW0 := Lib.hid hw0
  have z0 := hb0.size
  clear hw0 hb0
  by_cases hbig : 16384 < s.size
  · skip
    go_enter Tryz.func3, Tryz.ntmps3
    go_wp2_with fail
    rw [← HW0.out]
    refine (lives_ok w0 (HV.out.below HBL0.out) (HK.out.below HBL0.out)).mono ?_
    rintro e' w1 ⟨rfl, hb⟩
    have HB1 := Lib.hid (HBL0.out.trans (hb.mono HBL0.out.size))
    clear hb
    go_wp2
    go_ret
    exact ⟨rfl, HB1.out⟩
  · skip
    go_enter Tryz.func3, Tryz.ntmps3
    go_wp2_with (first | (rw [← HW0.out]; refine wpList_load_row rfl _ _ rfl w.heap.size rfl _ p (0, 0) _ HP0.out Tryz.underlying25 rfl HpS.out ?_) | fail)
    refine (A1.out w0 (HV.out.below HBL0.out)).mono ?_
    rintro e' w1 ⟨rfl, hb⟩
    have HP1 := Lib.hid ((hb.block _ lP0).trans HP0.out)
    have lP1 := lt_row HP1.out
    have HO1 := Lib.hid ((hb.block _ lO0).trans HO0.out)
    have lO1 := lt_row HO1.out
    have HBL1 := Lib.hid (HBL0.out.trans (hb.mono HBL0.out.size))
    have z1 := HBL1.out.size
    clear hb z0 lP0 lO0
    go_wp2_with (first | (refine wpList_load_row rfl _ _ rfl w.heap.size rfl _ p (0, 0) _ HP1.out Tryz.underlying25 rfl HpS.out ?_) | fail)
    refine (A2.out w1).mono ?_
    rintro e w2 ⟨rfl, hb⟩
    have HP2 := Lib.hid ((hb.block _ lP1).trans HP1.out)
    have lP2 := lt_row HP2.out
    have HO2 := Lib.hid ((hb.block _ lO1).trans HO1.out)
    have lO2 := lt_row HO2.out
    have HBL2 := Lib.hid (HBL1.out.trans (hb.mono HBL1.out.size))
    have z2 := HBL2.out.size
    clear hb z1 lP1 lO1
    go_wp2_with (first | (refine wpList_load_row rfl _ _ rfl w.heap.size rfl _ p (0, 0) _ HP2.out Tryz.underlying25 rfl HpS.out ?_) | fail)
    refine (C1.out w2 (HV.out.below HBL2.out)).mono ?_
    rintro e w3 ⟨rfl, hb⟩
    have HP3 := Lib.hid ((hb.block _ lP2).trans HP2.out)
    have lP3 := lt_row HP3.out
    have HO3 := Lib.hid ((hb.block _ lO2).trans HO2.out)
    have lO3 := lt_row HO3.out
    have HBL3 := Lib.hid (HBL2.out.trans (hb.mono HBL2.out.size))
    have z3 := HBL3.out.size
    clear hb z2 lP2 lO2
    go_wp2_with (first | (refine wpList_load_row rfl _ _ rfl w.heap.size rfl _ p (0, 0) _ HP3.out Tryz.underlying25 rfl HpS.out ?_) | fail)
    refine (C2.out w3 (HV.out.below HBL3.out)).mono ?_
    rintro e w4 ⟨rfl, hb⟩
    have HP4 := Lib.hid ((hb.block _ lP3).trans HP3.out)
    have lP4 := lt_row HP4.out
    have HO4 := Lib.hid ((hb.block _ lO3).trans HO3.out)
    have lO4 := lt_row HO4.out
    have HBL4 := Lib.hid (HBL3.out.trans (hb.mono HBL3.out.size))
    have z4 := HBL4.out.size
    clear hb z3 lP3 lO3
    go_wp2_with fail
    refine (D1.out w4 (HV.out.below HBL4.out)).mono ?_
    rintro e w5 ⟨rfl, hb⟩
    have HP5 := Lib.hid ((hb.block _ lP4).trans HP4.out)
    have lP5 := lt_row HP5.out
    have HO5 := Lib.hid ((hb.block _ lO4).trans HO4.out)
    have lO5 := lt_row HO5.out
    have HBL5 := Lib.hid (HBL4.out.trans (hb.mono HBL4.out.size))
    have z5 := HBL5.out.size
    clear hb z4 lP4 lO4
    go_wp2_with (first | (refine wpList_store_rowA rfl _ _ _ rfl w5.heap.size X rfl rfl _ _ (heap_new _ _) HXS.out (by rw [← HXN.out]; rfl) HXO.out ?_) | fail)
    intro u1 hu1
    have hb : Below w5.heap.size w5 u1 := by rw [hu1.out]; exact below_row ((Below.refl _ _).alloc (Nat.le_refl _) _) (Nat.le_refl _) _
    have hy : u1.heap[w5.heap.size]? = some (.cells X 25 (0, 0)) := by rw [hu1.out]; exact setRow_at (heap_new _ _)
    clear hu1
    obtain ⟨w6, hww⟩ : ∃ w', w' = u1 := ⟨_, rfl⟩
    rw [← hww] at hb hy ⊢
    clear hww
    obtain ⟨BX, hBX⟩ : ∃ B, B = w5.heap.size := ⟨_, rfl⟩
    rw [← hBX] at hy ⊢
    have gX : w.heap.size ≤ BX := by omega
    clear hBX
    have Hyn := Lib.hid hy
    clear hy
    have HP6 := Lib.hid ((hb.block _ lP5).trans HP5.out)
    have lP6 := lt_row HP6.out
    have HO6 := Lib.hid ((hb.block _ lO5).trans HO5.out)
    have lO6 := lt_row HO6.out
    have HBL6 := Lib.hid (HBL5.out.trans (hb.mono HBL5.out.size))
    have z6 := HBL6.out.size
    clear hb z5 lP5 lO5
    have HX6 := Lib.hid Hyn.out
    have lX6 := lt_row HX6.out
    clear Hyn
    go_wp2_with fail
    refine (D2.out w6).mono ?_
    rintro e w7 ⟨rfl, hb⟩
    have HP7 := Lib.hid ((hb.block _ lP6).trans HP6.out)
    have lP7 := lt_row HP7.out
    have HO7 := Lib.hid ((hb.block _ lO6).trans HO6.out)
    have lO7 := lt_row HO7.out
    have HX7 := Lib.hid ((hb.block _ lX6).trans HX6.out)
    have lX7 := lt_row HX7.out
    have HBL7 := Lib.hid (HBL6.out.trans (hb.mono HBL6.out.size))
    have z7 := HBL7.out.size
    clear hb z6 lP6 lO6 lX6
    go_wp2_with (first | (refine wpList_store_rowA rfl _ _ _ rfl w7.heap.size X rfl rfl _ _ (heap_new _ _) HXS.out (by rw [← HXN.out]; rfl) HXO.out ?_) | fail)
    intro u1 hu1
    have hb : Below w7.heap.size w7 u1 := by rw [hu1.out]; exact below_row ((Below.refl _ _).alloc (Nat.le_refl _) _) (Nat.le_refl _) _
    have hy : u1.heap[w7.heap.size]? = some (.cells X 25 (0, 0)) := by rw [hu1.out]; exact setRow_at (heap_new _ _)
    clear hu1
    obtain ⟨w8, hww⟩ : ∃ w', w' = u1 := ⟨_, rfl⟩
    rw [← hww] at hb hy ⊢
    clear hww
    obtain ⟨BU, hBU⟩ : ∃ B, B = w7.heap.size := ⟨_, rfl⟩
    rw [← hBU] at hy ⊢
    have gU : w.heap.size ≤ BU := by omega
    clear hBU
    have Hyn := Lib.hid hy
    clear hy
    have HP8 := Lib.hid ((hb.block _ lP7).trans HP7.out)
    have lP8 := lt_row HP8.out
    have HO8 := Lib.hid ((hb.block _ lO7).trans HO7.out)
    have lO8 := lt_row HO8.out
    have HX8 := Lib.hid ((hb.block _ lX7).trans HX7.out)
    have lX8 := lt_row HX8.out
    have HBL8 := Lib.hid (HBL7.out.trans (hb.mono HBL7.out.size))
    have z8 := HBL8.out.size
    clear hb z7 lP7 lO7 lX7
    have HU8 := Lib.hid Hyn.out
    have lU8 := lt_row HU8.out
    clear Hyn
    go_wp2_with fail
    refine (F1.out w8 (HV.out.below HBL8.out)).mono ?_
    rintro e w9 ⟨rfl, hb⟩
    have HP9 := Lib.hid ((hb.block _ lP8).trans HP8.out)
    have lP9 := lt_row HP9.out
    have HO9 := Lib.hid ((hb.block _ lO8).trans HO8.out)
    have lO9 := lt_row HO9.out
    have HX9 := Lib.hid ((hb.block _ lX8).trans HX8.out)
    have lX9 := lt_row HX9.out
    have HU9 := Lib.hid ((hb.block _ lU8).trans HU8.out)
    have lU9 := lt_row HU9.out
    have HBL9 := Lib.hid (HBL8.out.trans (hb.mono HBL8.out.size))
    have z9 := HBL9.out.size
    clear hb z8 lP8 lO8 lX8 lU8
    go_wp2_with (first | (refine wpList_store_rowA rfl _ _ _ rfl w9.heap.size Y rfl rfl _ _ (heap_new _ _) HYS.out (by rw [← HYN.out]; rfl) HYO.out ?_) | fail)
    intro u1 hu1
    have hb : Below w9.heap.size w9 u1 := by rw [hu1.out]; exact below_row ((Below.refl _ _).alloc (Nat.le_refl _) _) (Nat.le_refl _) _
    have hy : u1.heap[w9.heap.size]? = some (.cells Y 25 (0, 0)) := by rw [hu1.out]; exact setRow_at (heap_new _ _)
    clear hu1
    obtain ⟨w10, hww⟩ : ∃ w', w' = u1 := ⟨_, rfl⟩
    rw [← hww] at hb hy ⊢
    clear hww
    obtain ⟨BY, hBY⟩ : ∃ B, B = w9.heap.size := ⟨_, rfl⟩
    rw [← hBY] at hy ⊢
    have gY : w.heap.size ≤ BY := by omega
    clear hBY
    have Hyn := Lib.hid hy
    clear hy
    have HP10 := Lib.hid ((hb.block _ lP9).trans HP9.out)
    have lP10 := lt_row HP10.out
    have HO10 := Lib.hid ((hb.block _ lO9).trans HO9.out)
    have lO10 := lt_row HO10.out
    have HX10 := Lib.hid ((hb.block _ lX9).trans HX9.out)
    have lX10 := lt_row HX10.out
    have HU10 := Lib.hid ((hb.block _ lU9).trans HU9.out)
    have lU10 := lt_row HU10.out
    have HBL10 := Lib.hid (HBL9.out.trans (hb.mono HBL9.out.size))
    have z10 := HBL10.out.size
    clear hb z9 lP9 lO9 lX9 lU9
    have HY10 := Lib.hid Hyn.out
    have lY10 := lt_row HY10.out
    clear Hyn
    go_wp2_with fail
    refine (F2.out w10).mono ?_
    rintro e w11 ⟨rfl, hb⟩
    have HP11 := Lib.hid ((hb.block _ lP10).trans HP10.out)
    have lP11 := lt_row HP11.out
    have HO11 := Lib.hid ((hb.block _ lO10).trans HO10.out)
    have lO11 := lt_row HO11.out
    have HX11 := Lib.hid ((hb.block _ lX10).trans HX10.out)
    have lX11 := lt_row HX11.out
    have HU11 := Lib.hid ((hb.block _ lU10).trans HU10.out)
    have lU11 := lt_row HU11.out
    have HY11 := Lib.hid ((hb.block _ lY10).trans HY10.out)
    have lY11 := lt_row HY11.out
    have HBL11 := Lib.hid (HBL10.out.trans (hb.mono HBL10.out.size))
    have z11 := HBL11.out.size
    clear hb z10 lP10 lO10 lX10 lU10 lY10
    go_wp2_with (first | (refine wpList_store_rowA rfl _ _ _ rfl w11.heap.size Y rfl rfl _ _ (heap_new _ _) HYS.out (by rw [← HYN.out]; rfl) HYO.out ?_) | fail)
    intro u1 hu1
    have hb : Below w11.heap.size w11 u1 := by rw [hu1.out]; exact below_row ((Below.refl _ _).alloc (Nat.le_refl _) _) (Nat.le_refl _) _
    have hy : u1.heap[w11.heap.size]? = some (.cells Y 25 (0, 0)) := by rw [hu1.out]; exact setRow_at (heap_new _ _)
    clear hu1
    obtain ⟨w12, hww⟩ : ∃ w', w' = u1 := ⟨_, rfl⟩
    rw [← hww] at hb hy ⊢
    clear hww
    obtain ⟨BZ, hBZ⟩ : ∃ B, B = w11.heap.size := ⟨_, rfl⟩
    rw [← hBZ] at hy ⊢
    have gZ : w.heap.size ≤ BZ := by omega
    clear hBZ
    have Hyn := Lib.hid hy
    clear hy
    have HP12 := Lib.hid ((hb.block _ lP11).trans HP11.out)
    have lP12 := lt_row HP12.out
    have HO12 := Lib.hid ((hb.block _ lO11).trans HO11.out)
    have lO12 := lt_row HO12.out
    have HX12 := Lib.hid ((hb.block _ lX11).trans HX11.out)
    have lX12 := lt_row HX12.out
    have HU12 := Lib.hid ((hb.block _ lU11).trans HU11.out)
    have lU12 := lt_row HU12.out
    have HY12 := Lib.hid ((hb.block _ lY11).trans HY11.out)
    have lY12 := lt_row HY12.out
    have HBL12 := Lib.hid (HBL11.out.trans (hb.mono HBL11.out.size))
    have z12 := HBL12.out.size
    clear hb z11 lP11 lO11 lX11 lU11 lY11
    have HZ12 := Lib.hid Hyn.out
    have lZ12 := lt_row HZ12.out
    clear Hyn
    go_wp2_with (first | (refine wpList_load_row rfl _ _ rfl (w.heap.size + 1) rfl _ q (0, 0) _ HO12.out Tryz.underlying27 rfl HqS.out ?_) | fail)
    refine (O1.out w12 (HV.out.below HBL12.out) (HK.out.below HBL12.out)).mono ?_
    rintro e w13 ⟨rfl, hb⟩
    have HP13 := Lib.hid ((hb.block _ lP12).trans HP12.out)
    have lP13 := lt_row HP13.out
    have HO13 := Lib.hid ((hb.block _ lO12).trans HO12.out)
    have lO13 := lt_row HO13.out
    have HX13 := Lib.hid ((hb.block _ lX12).trans HX12.out)
    have lX13 := lt_row HX13.out
    have HU13 := Lib.hid ((hb.block _ lU12).trans HU12.out)
    have lU13 := lt_row HU13.out
    have HY13 := Lib.hid ((hb.block _ lY12).trans HY12.out)
    have lY13 := lt_row HY13.out
    have HZ13 := Lib.hid ((hb.block _ lZ12).trans HZ12.out)
    have lZ13 := lt_row HZ13.out
    have HBL13 := Lib.hid (HBL12.out.trans (hb.mono HBL12.out.size))
    have z13 := HBL13.out.size
    clear hb z12 lP12 lO12 lX12 lU12 lY12 lZ12
    go_wp2_with (first | (refine wpList_store_rowA rfl _ _ _ rfl w13.heap.size F rfl rfl _ _ (heap_new _ _) HFS.out (by rw [← HFN.out]; rfl) HFO.out ?_) | fail)
    intro u1 hu1
    have hb : Below w13.heap.size w13 u1 := by rw [hu1.out]; exact below_row ((Below.refl _ _).alloc (Nat.le_refl _) _) (Nat.le_refl _) _
    have hy : u1.heap[w13.heap.size]? = some (.cells F 25 (0, 0)) := by rw [hu1.out]; exact setRow_at (heap_new _ _)
    clear hu1
    obtain ⟨w14, hww⟩ : ∃ w', w' = u1 := ⟨_, rfl⟩
    rw [← hww] at hb hy ⊢
    clear hww
    obtain ⟨BG, hBG⟩ : ∃ B, B = w13.heap.size := ⟨_, rfl⟩
    rw [← hBG] at hy ⊢
    have gG : w.heap.size ≤ BG := by omega
    clear hBG
    have Hyn := Lib.hid hy
    clear hy
    have HP14 := Lib.hid ((hb.block _ lP13).trans HP13.out)
    have lP14 := lt_row HP14.out
    have HO14 := Lib.hid ((hb.block _ lO13).trans HO13.out)
    have lO14 := lt_row HO14.out
    have HX14 := Lib.hid ((hb.block _ lX13).trans HX13.out)
    have lX14 := lt_row HX14.out
    have HU14 := Lib.hid ((hb.block _ lU13).trans HU13.out)
    have lU14 := lt_row HU14.out
    have HY14 := Lib.hid ((hb.block _ lY13).trans HY13.out)
    have lY14 := lt_row HY14.out
    have HZ14 := Lib.hid ((hb.block _ lZ13).trans HZ13.out)
    have lZ14 := lt_row HZ14.out
    have HBL14 := Lib.hid (HBL13.out.trans (hb.mono HBL13.out.size))
    have z14 := HBL14.out.size
    clear hb z13 lP13 lO13 lX13 lU13 lY13 lZ13
    have HG14 := Lib.hid Hyn.out
    have lG14 := lt_row HG14.out
    clear Hyn
    go_wp2_with (first | (refine wpList_load_row rfl _ _ rfl (w.heap.size + 1) rfl _ q (0, 0) _ HO14.out Tryz.underlying27 rfl HqS.out ?_) | fail)
    refine (O2.out w14 (HV.out.below HBL14.out) (HK.out.below HBL14.out)).mono ?_
    rintro e w15 ⟨rfl, hb⟩
    have HP15 := Lib.hid ((hb.block _ lP14).trans HP14.out)
    have lP15 := lt_row HP15.out
    have HO15 := Lib.hid ((hb.block _ lO14).trans HO14.out)
    have lO15 := lt_row HO15.out
    have HX15 := Lib.hid ((hb.block _ lX14).trans HX14.out)
    have lX15 := lt_row HX15.out
    have HU15 := Lib.hid ((hb.block _ lU14).trans HU14.out)
    have lU15 := lt_row HU15.out
    have HY15 := Lib.hid ((hb.block _ lY14).trans HY14.out)
    have lY15 := lt_row HY15.out
    have HZ15 := Lib.hid ((hb.block _ lZ14).trans HZ14.out)
    have lZ15 := lt_row HZ15.out
    have HG15 := Lib.hid ((hb.block _ lG14).trans HG14.out)
    have lG15 := lt_row HG15.out
    have HBL15 := Lib.hid (HBL14.out.trans (hb.mono HBL14.out.size))
    have z15 := HBL15.out.size
    clear hb z14 lP14 lO14 lX14 lU14 lY14 lZ14 lG14
    go_wp2_with (first | (refine wpList_store_rowA rfl _ _ _ rfl w15.heap.size F rfl rfl _ _ (heap_new _ _) HFS.out (by rw [← HFN.out]; rfl) HFO.out ?_) | fail)
    intro u1 hu1
    have hb : Below w15.heap.size w15 u1 := by rw [hu1.out]; exact below_row ((Below.refl _ _).alloc (Nat.le_refl _) _) (Nat.le_refl _) _
    have hy : u1.heap[w15.heap.size]? = some (.cells F 25 (0, 0)) := by rw [hu1.out]; exact setRow_at (heap_new _ _)
    clear hu1
    obtain ⟨w16, hww⟩ : ∃ w', w' = u1 := ⟨_, rfl⟩
    rw [← hww] at hb hy ⊢
    clear hww
    obtain ⟨BK, hBK⟩ : ∃ B, B = w15.heap.size := ⟨_, rfl⟩
    rw [← hBK] at hy ⊢
    have gK : w.heap.size ≤ BK := by omega
    clear hBK
    have Hyn := Lib.hid hy
    clear hy
    have HP16 := Lib.hid ((hb.block _ lP15).trans HP15.out)
    have lP16 := lt_row HP16.out
    have HO16 := Lib.hid ((hb.block _ lO15).trans HO15.out)
    have lO16 := lt_row HO16.out
    have HX16 := Lib.hid ((hb.block _ lX15).trans HX15.out)
    have lX16 := lt_row HX16.out
    have HU16 := Lib.hid ((hb.block _ lU15).trans HU15.out)
    have lU16 := lt_row HU16.out
    have HY16 := Lib.hid ((hb.block _ lY15).trans HY15.out)
    have lY16 := lt_row HY16.out
    have HZ16 := Lib.hid ((hb.block _ lZ15).trans HZ15.out)
    have lZ16 := lt_row HZ16.out
    have HG16 := Lib.hid ((hb.block _ lG15).trans HG15.out)
    have lG16 := lt_row HG16.out
    have HBL16 := Lib.hid (HBL15.out.trans (hb.mono HBL15.out.size))
    have z16 := HBL16.out.size
    clear hb z15 lP15 lO15 lX15 lU15 lY15 lZ15 lG15
    have HK16 := Lib.hid Hyn.out
    have lK16 := lt_row HK16.out
    clear Hyn
    go_wp2_with fail
    have hqX := HQX.out
    have hqY := HQY.out
    have hqF := HQF.out
    have hGE := HGE.out
    have HVk := Lib.hid (HV.out.below HBL16.out)
    have HKk := Lib.hid (HK.out.below HBL16.out)
    refine Uniform.region_chain (S := (fun W => W.heap[w.heap.size]? = some (.cells p 25 (0, 0)) ∧ W.heap[BX]? = some (.cells X 25 (0, 0)) ∧ W.heap[BU]? = some (.cells X 25 (0, 0)) ∧ W.heap[BY]? = some (.cells Y 25 (0, 0)) ∧ W.heap[BZ]? = some (.cells Y 25 (0, 0)) ∧ W.heap[BG]? = some (.cells F 25 (0, 0)) ∧ W.heap[BK]? = some (.cells F 25 (0, 0)) ∧ VarsI W ∧ VarsH W ∧ Below w.heap.size w W)) (List.range 59) (by kernel_rfl) (by kernel_rfl) ⟨HP16.out, HX16.out, HU16.out, HY16.out, HZ16.out, HG16.out, HK16.out, (HVk.out).below (Bl.drew (Below.refl _ _)), (HKk.out).below (Bl.drew (Below.refl _ _)), (HBL16.out).drew⟩ ?_
    refine ⟨_, ?_, rfl, Or.inl ⟨by rfl, fun wq hSw => Uniform.UStep.call (w' := wq) ?_ ((lives_ok wq hSw.2.2.2.2.2.2.2.1 hSw.2.2.2.2.2.2.2.2.1).mono ?_)⟩, ?_⟩
    rotate_left
    · obtain ⟨q0, q1, q2, q3, q4, q5, q6, q7, q8, q9⟩ := hSw
      go_simp
      first | done | rfl | exact ⟨⟨rfl, rfl⟩, rfl⟩ | exact ⟨rfl, rfl⟩
    · have hSk := hSw
      obtain ⟨q0, q1, q2, q3, q4, q5, q6, q7, q8, q9⟩ := hSw
      rintro e wq2 ⟨rfl, hbq⟩
      refine ⟨?_, (hbq.block _ (lt_row q0)).trans q0, (hbq.block _ (lt_row q1)).trans q1, (hbq.block _ (lt_row q2)).trans q2, (hbq.block _ (lt_row q3)).trans q3, (hbq.block _ (lt_row q4)).trans q4, (hbq.block _ (lt_row q5)).trans q5, (hbq.block _ (lt_row q6)).trans q6, q7.below hbq, q8.below hbq, q9.trans (hbq.mono q9.size)⟩
      rfl
    simp only [Act.put, sx1, sx2, sx3, sx4, sx5, sx6]
    refine ⟨_, ?_, rfl, Or.inl ⟨by rfl, fun wq hSw => Uniform.UStep.value (w' := wq) ?_ hSw⟩, ?_⟩
    rotate_left
    · obtain ⟨q0, q1, q2, q3, q4, q5, q6, q7, q8, q9⟩ := hSw
      go_simp
      rfl
    simp only [Act.put, sx1, sx2, sx3, sx4, sx5, sx6]
    refine ⟨_, _, rfl, Or.inl ⟨by rfl, fun wq hSw => Uniform.UStep.value (w' := wq) (EqHash.exec_load_row 25 _ rfl _ rfl hSw.1 Tryz.underlying25 rfl HpS.out) hSw⟩, ?_⟩
    simp only [Act.put, sx1, sx2, sx3, sx4, sx5, sx6]
    refine ⟨_, ?_, rfl, Or.inl ⟨by rfl, fun wq hSw => Uniform.UStep.call (w' := wq) ?_ ((G1.out wq hSw.2.2.2.2.2.2.2.1).mono ?_)⟩, ?_⟩
    rotate_left
    · obtain ⟨q0, q1, q2, q3, q4, q5, q6, q7, q8, q9⟩ := hSw
      go_simp
      first | done | rfl | exact ⟨⟨rfl, rfl⟩, rfl⟩ | exact ⟨rfl, rfl⟩
    · have hSk := hSw
      obtain ⟨q0, q1, q2, q3, q4, q5, q6, q7, q8, q9⟩ := hSw
      rintro e wq2 ⟨rfl, hbq⟩
      refine ⟨?_, (hbq.block _ (lt_row q0)).trans q0, (hbq.block _ (lt_row q1)).trans q1, (hbq.block _ (lt_row q2)).trans q2, (hbq.block _ (lt_row q3)).trans q3, (hbq.block _ (lt_row q4)).trans q4, (hbq.block _ (lt_row q5)).trans q5, (hbq.block _ (lt_row q6)).trans q6, q7.below hbq, q8.below hbq, q9.trans (hbq.mono q9.size)⟩
      rfl
    simp only [Act.put, sx1, sx2, sx3, sx4, sx5, sx6]
    refine ⟨_, _, rfl, Or.inl ⟨by rfl, fun wq hSw => Uniform.UStep.value (w' := wq) (EqHash.exec_load_row 25 _ rfl _ rfl hSw.1 Tryz.underlying25 rfl HpS.out) hSw⟩, ?_⟩
    simp only [Act.put, sx1, sx2, sx3, sx4, sx5, sx6]
    refine ⟨_, ?_, rfl, Or.inl ⟨by rfl, fun wq hSw => Uniform.UStep.call (w' := wq) ?_ ((G2.out wq).mono ?_)⟩, ?_⟩
    rotate_left
    · obtain ⟨q0, q1, q2, q3, q4, q5, q6, q7, q8, q9⟩ := hSw
      go_simp
      first | done | rfl | exact ⟨⟨rfl, rfl⟩, rfl⟩ | exact ⟨rfl, rfl⟩
    · have hSk := hSw
      obtain ⟨q0, q1, q2, q3, q4, q5, q6, q7, q8, q9⟩ := hSw
      rintro e wq2 ⟨rfl, hbq⟩
      refine ⟨?_, (hbq.block _ (lt_row q0)).trans q0, (hbq.block _ (lt_row q1)).trans q1, (hbq.block _ (lt_row q2)).trans q2, (hbq.block _ (lt_row q3)).trans q3, (hbq.block _ (lt_row q4)).trans q4, (hbq.block _ (lt_row q5)).trans q5, (hbq.block _ (lt_row q6)).trans q6, q7.below hbq, q8.below hbq, q9.trans (hbq.mono q9.size)⟩
      rfl
    simp only [Act.put, sx1, sx2, sx3, sx4, sx5, sx6]
    refine ⟨_, ?_, rfl, Or.inl ⟨by rfl, fun wq hSw => Uniform.UStep.value (w' := wq) ?_ hSw⟩, ?_⟩
    rotate_left
    · obtain ⟨q0, q1, q2, q3, q4, q5, q6, q7, q8, q9⟩ := hSw
      go_simp
      rfl
    simp only [Act.put, sx1, sx2, sx3, sx4, sx5, sx6]
    refine ⟨_, ?_, rfl, Or.inl ⟨by rfl, fun wq hSw => Uniform.UStep.value (w' := wq) ?_ hSw⟩, ?_⟩
    rotate_left
    · obtain ⟨q0, q1, q2, q3, q4, q5, q6, q7, q8, q9⟩ := hSw
      go_simp
      rfl
    simp only [Act.put, sx1, sx2, sx3, sx4, sx5, sx6]
    refine ⟨_, ?_, rfl, Or.inl ⟨by rfl, fun wq hSw => Uniform.UStep.value (w' := wq) ?_ hSw⟩, ?_⟩
    rotate_left
    · obtain ⟨q0, q1, q2, q3, q4, q5, q6, q7, q8, q9⟩ := hSw
      go_simp
      rfl
    simp only [Act.put, sx1, sx2, sx3, sx4, sx5, sx6]
    refine ⟨_, ?_, rfl, Or.inl ⟨by rfl, fun wq hSw => Uniform.UStep.value (w' := wq) ?_ hSw⟩, ?_⟩
    rotate_left
    · obtain ⟨q0, q1, q2, q3, q4, q5, q6, q7, q8, q9⟩ := hSw
      go_simp
      rfl
    simp only [Act.put, sx1, sx2, sx3, sx4, sx5, sx6]
    refine ⟨_, ?_, rfl, Or.inl ⟨by rfl, fun wq hSw => Uniform.UStep.value (w' := wq) ?_ hSw⟩, ?_⟩
    rotate_left
    · obtain ⟨q0, q1, q2, q3, q4, q5, q6, q7, q8, q9⟩ := hSw
      go_simp
      rfl
    simp only [Act.put, sx1, sx2, sx3, sx4, sx5, sx6]
    refine ⟨_, ?_, rfl, Or.inl ⟨by rfl, fun wq hSw => Uniform.UStep.value (w' := wq) ?_ hSw⟩, ?_⟩
    rotate_left
    · obtain ⟨q0, q1, q2, q3, q4, q5, q6, q7, q8, q9⟩ := hSw
      go_simp
      rfl
    simp only [Act.put, sx1, sx2, sx3, sx4, sx5, sx6]
    refine ⟨_, ?_, rfl, Or.inl ⟨by rfl, fun wq hSw => Uniform.UStep.value (w' := wq) ?_ hSw⟩, ?_⟩
    rotate_left
    · obtain ⟨q0, q1, q2, q3, q4, q5, q6, q7, q8, q9⟩ := hSw
      go_simp
      rfl
    simp only [Act.put, sx1, sx2, sx3, sx4, sx5, sx6]
    refine ⟨_, ?_, rfl, Or.inl ⟨by rfl, fun wq hSw => Uniform.UStep.value (w' := wq) ?_ hSw⟩, ?_⟩
    rotate_left
    · obtain ⟨q0, q1, q2, q3, q4, q5, q6, q7, q8, q9⟩ := hSw
      go_simp
      rfl
    simp only [Act.put, sx1, sx2, sx3, sx4, sx5, sx6]
    refine ⟨_, ?_, rfl, Or.inl ⟨by rfl, fun wq hSw => Uniform.UStep.value (w' := wq) ?_ hSw⟩, ?_⟩
    rotate_left
    · obtain ⟨q0, q1, q2, q3, q4, q5, q6, q7, q8, q9⟩ := hSw
      go_simp
      rfl
    simp only [Act.put, sx1, sx2, sx3, sx4, sx5, sx6]
    refine ⟨_, ?_, rfl, Or.inl ⟨by rfl, fun wq hSw => Uniform.UStep.value (w' := wq) ?_ hSw⟩, ?_⟩
    rotate_left
    · obtain ⟨q0, q1, q2, q3, q4, q5, q6, q7, q8, q9⟩ := hSw
      go_simp
      rfl
    simp only [Act.put, sx1, sx2, sx3, sx4, sx5, sx6]
    refine ⟨_, ?_, rfl, Or.inl ⟨by rfl, fun wq hSw => Uniform.UStep.value (w' := wq) ?_ hSw⟩, ?_⟩
    rotate_left
    · obtain ⟨q0, q1, q2, q3, q4, q5, q6, q7, q8, q9⟩ := hSw
      go_simp
      rfl
    simp only [Act.put, sx1, sx2, sx3, sx4, sx5, sx6]
    refine ⟨_, ?_, rfl, Or.inl ⟨by rfl, fun wq hSw => Uniform.UStep.value (w' := wq) ?_ hSw⟩, ?_⟩
    rotate_left
    · obtain ⟨q0, q1, q2, q3, q4, q5, q6, q7, q8, q9⟩ := hSw
      go_simp
      rfl
    simp only [Act.put, sx1, sx2, sx3, sx4, sx5, sx6]
    refine ⟨_, ?_, rfl, Or.inl ⟨by rfl, fun wq hSw => Uniform.UStep.value (w' := wq) ?_ hSw⟩, ?_⟩
    rotate_left
    · obtain ⟨q0, q1, q2, q3, q4, q5, q6, q7, q8, q9⟩ := hSw
      go_simp
      rfl
    simp only [Act.put, sx1, sx2, sx3, sx4, sx5, sx6]
    refine ⟨_, ?_, rfl, Or.inl ⟨by rfl, fun wq hSw => Uniform.UStep.value (w' := wq) ?_ hSw⟩, ?_⟩
    rotate_left
    · obtain ⟨q0, q1, q2, q3, q4, q5, q6, q7, q8, q9⟩ := hSw
      go_simp
      rfl
    simp only [Act.put, sx1, sx2, sx3, sx4, sx5, sx6]
    refine ⟨_, ?_, rfl, Or.inl ⟨by rfl, fun wq hSw => Uniform.UStep.value (w' := wq) ?_ hSw⟩, ?_⟩
    rotate_left
    · obtain ⟨q0, q1, q2, q3, q4, q5, q6, q7, q8, q9⟩ := hSw
      go_simp
      rfl
    simp only [Act.put, sx1, sx2, sx3, sx4, sx5, sx6]
    refine ⟨_, ?_, rfl, Or.inl ⟨by rfl, fun wq hSw => Uniform.UStep.value (w' := wq) ?_ hSw⟩, ?_⟩
    rotate_left
    · obtain ⟨q0, q1, q2, q3, q4, q5, q6, q7, q8, q9⟩ := hSw
      go_simp
      rfl
    simp only [Act.put, sx1, sx2, sx3, sx4, sx5, sx6]
    refine ⟨_, ?_, rfl, Or.inl ⟨by rfl, fun wq hSw => Uniform.UStep.value (w' := wq) ?_ hSw⟩, ?_⟩
    rotate_left
    · obtain ⟨q0, q1, q2, q3, q4, q5, q6, q7, q8, q9⟩ := hSw
      go_simp
      rfl
    simp only [Act.put, sx1, sx2, sx3, sx4, sx5, sx6]
    refine ⟨_, ?_, rfl, Or.inl ⟨by rfl, fun wq hSw => Uniform.UStep.value (w' := wq) ?_ hSw⟩, ?_⟩
    rotate_left
    · obtain ⟨q0, q1, q2, q3, q4, q5, q6, q7, q8, q9⟩ := hSw
      go_simp
      rfl
    simp only [Act.put, sx1, sx2, sx3, sx4, sx5, sx6]
    refine ⟨_, ?_, rfl, Or.inl ⟨by rfl, fun wq hSw => Uniform.UStep.value (w' := wq) ?_ hSw⟩, ?_⟩
    rotate_left
    · obtain ⟨q0, q1, q2, q3, q4, q5, q6, q7, q8, q9⟩ := hSw
      go_simp
      rfl
    simp only [Act.put, sx1, sx2, sx3, sx4, sx5, sx6]
    refine ⟨_, ?_, rfl, Or.inl ⟨by rfl, fun wq hSw => Uniform.UStep.value (w' := wq) ?_ hSw⟩, ?_⟩
    rotate_left
    · obtain ⟨q0, q1, q2, q3, q4, q5, q6, q7, q8, q9⟩ := hSw
      go_simp
      rfl
    simp only [Act.put, sx1, sx2, sx3, sx4, sx5, sx6]
    refine ⟨_, ?_, rfl, Or.inl ⟨by rfl, fun wq hSw => Uniform.UStep.value (w' := wq) ?_ hSw⟩, ?_⟩
    rotate_left
    · obtain ⟨q0, q1, q2, q3, q4, q5, q6, q7, q8, q9⟩ := hSw
      go_simp
      rfl
    simp only [Act.put, sx1, sx2, sx3, sx4, sx5, sx6]
    refine ⟨_, ?_, rfl, Or.inl ⟨by rfl, fun wq hSw => Uniform.UStep.value (w' := wq) ?_ hSw⟩, ?_⟩
    rotate_left
    · obtain ⟨q0, q1, q2, q3, q4, q5, q6, q7, q8, q9⟩ := hSw
      go_simp
      rfl
    simp only [Act.put, sx1, sx2, sx3, sx4, sx5, sx6]
    refine ⟨_, ?_, rfl, Or.inl ⟨by rfl, fun wq hSw => Uniform.UStep.value (w' := wq) ?_ hSw⟩, ?_⟩
    rotate_left
    · obtain ⟨q0, q1, q2, q3, q4, q5, q6, q7, q8, q9⟩ := hSw
      go_simp
      rfl
    simp only [Act.put, sx1, sx2, sx3, sx4, sx5, sx6]
    refine ⟨_, _, rfl, Or.inl ⟨by rfl, fun wq hSw => Uniform.UStep.value (w' := wq) (EqHash.exec_load_row 25 _ rfl _ rfl hSw.2.1 Tryz.underlying25 rfl HXS.out) hSw⟩, ?_⟩
    simp only [Act.put, sx1, sx2, sx3, sx4, sx5, sx6]
    refine ⟨_, _, rfl, Or.inl ⟨by rfl, fun wq hSw => Uniform.UStep.value (w' := wq) (EqHash.exec_load_row 25 _ rfl _ rfl hSw.2.2.1 Tryz.underlying25 rfl HXS.out) hSw⟩, ?_⟩
    simp only [Act.put, sx1, sx2, sx3, sx4, sx5, sx6]
    refine ⟨_, ?_, rfl, Or.inl ⟨by rfl, fun wq hSw => Uniform.UStep.value (w' := wq) ?_ hSw⟩, ?_⟩
    rotate_left
    · obtain ⟨q0, q1, q2, q3, q4, q5, q6, q7, q8, q9⟩ := hSw
      go_simp
      rfl
    simp only [Act.put, sx1, sx2, sx3, sx4, sx5, sx6]
    refine ⟨_, ?_, rfl, Or.inl ⟨by rfl, fun wq hSw => Uniform.UStep.value (w' := wq) ?_ hSw⟩, ?_⟩
    rotate_left
    · obtain ⟨q0, q1, q2, q3, q4, q5, q6, q7, q8, q9⟩ := hSw
      go_simp
      rfl
    simp only [Act.put, sx1, sx2, sx3, sx4, sx5, sx6]
    refine ⟨_, ?_, rfl, Or.inl ⟨by rfl, fun wq hSw => Uniform.UStep.value (w' := wq) ?_ hSw⟩, ?_⟩
    rotate_left
    · obtain ⟨q0, q1, q2, q3, q4, q5, q6, q7, q8, q9⟩ := hSw
      go_simp
      rfl
    simp only [Act.put, sx1, sx2, sx3, sx4, sx5, sx6]
    refine ⟨_, ?_, rfl, Or.inl ⟨by rfl, fun wq hSw => Uniform.UStep.value (w' := wq) ?_ hSw⟩, ?_⟩
    rotate_left
    · obtain ⟨q0, q1, q2, q3, q4, q5, q6, q7, q8, q9⟩ := hSw
      go_simp
      rfl
    simp only [Act.put, sx1, sx2, sx3, sx4, sx5, sx6]
    refine ⟨_, ?_, rfl, Or.inl ⟨by rfl, fun wq hSw => Uniform.UStep.value (w' := wq) ?_ hSw⟩, ?_⟩
    rotate_left
    · obtain ⟨q0, q1, q2, q3, q4, q5, q6, q7, q8, q9⟩ := hSw
      go_simp
      rfl
    simp only [Act.put, sx1, sx2, sx3, sx4, sx5, sx6]
    refine ⟨_, ?_, rfl, Or.inl ⟨by rfl, fun wq hSw => Uniform.UStep.value (w' := wq) ?_ hSw⟩, ?_⟩
    rotate_left
    · obtain ⟨q0, q1, q2, q3, q4, q5, q6, q7, q8, q9⟩ := hSw
      go_simp
      rfl
    simp only [Act.put, sx1, sx2, sx3, sx4, sx5, sx6]
    refine ⟨_, ?_, rfl, Or.inl ⟨by rfl, fun wq hSw => Uniform.UStep.value (w' := wq) ?_ hSw⟩, ?_⟩
    rotate_left
    · obtain ⟨q0, q1, q2, q3, q4, q5, q6, q7, q8, q9⟩ := hSw
      go_simp
      rfl
    simp only [Act.put, sx1, sx2, sx3, sx4, sx5, sx6]
    refine ⟨_, ?_, rfl, Or.inl ⟨by rfl, fun wq hSw => Uniform.UStep.value (w' := wq) ?_ hSw⟩, ?_⟩
    rotate_left
    · obtain ⟨q0, q1, q2, q3, q4, q5, q6, q7, q8, q9⟩ := hSw
      go_simp
      rfl
    simp only [Act.put, sx1, sx2, sx3, sx4, sx5, sx6]
    refine ⟨_, _, rfl, Or.inl ⟨by rfl, fun wq hSw => Uniform.UStep.value (w' := wq) (EqHash.exec_load_row 25 _ rfl _ rfl hSw.2.2.2.1 Tryz.underlying25 rfl HYS.out) hSw⟩, ?_⟩
    simp only [Act.put, sx1, sx2, sx3, sx4, sx5, sx6]
    refine ⟨_, _, rfl, Or.inl ⟨by rfl, fun wq hSw => Uniform.UStep.value (w' := wq) (EqHash.exec_load_row 25 _ rfl _ rfl hSw.2.2.2.2.1 Tryz.underlying25 rfl HYS.out) hSw⟩, ?_⟩
    simp only [Act.put, sx1, sx2, sx3, sx4, sx5, sx6]
    refine ⟨_, ?_, rfl, Or.inl ⟨by rfl, fun wq hSw => Uniform.UStep.value (w' := wq) ?_ hSw⟩, ?_⟩
    rotate_left
    · obtain ⟨q0, q1, q2, q3, q4, q5, q6, q7, q8, q9⟩ := hSw
      go_simp
      rfl
    simp only [Act.put, sx1, sx2, sx3, sx4, sx5, sx6]
    refine ⟨_, ?_, rfl, Or.inl ⟨by rfl, fun wq hSw => Uniform.UStep.value (w' := wq) ?_ hSw⟩, ?_⟩
    rotate_left
    · obtain ⟨q0, q1, q2, q3, q4, q5, q6, q7, q8, q9⟩ := hSw
      go_simp
      rfl
    simp only [Act.put, sx1, sx2, sx3, sx4, sx5, sx6]
    refine ⟨_, ?_, rfl, Or.inl ⟨by rfl, fun wq hSw => Uniform.UStep.value (w' := wq) ?_ hSw⟩, ?_⟩
    rotate_left
    · obtain ⟨q0, q1, q2, q3, q4, q5, q6, q7, q8, q9⟩ := hSw
      go_simp
      rfl
    simp only [Act.put, sx1, sx2, sx3, sx4, sx5, sx6]
    refine ⟨_, ?_, rfl, Or.inl ⟨by rfl, fun wq hSw => Uniform.UStep.value (w' := wq) ?_ hSw⟩, ?_⟩
    rotate_left
    · obtain ⟨q0, q1, q2, q3, q4, q5, q6, q7, q8, q9⟩ := hSw
      go_simp
      rfl
    simp only [Act.put, sx1, sx2, sx3, sx4, sx5, sx6]
    refine ⟨_, ?_, rfl, Or.inl ⟨by rfl, fun wq hSw => Uniform.UStep.value (w' := wq) ?_ hSw⟩, ?_⟩
    rotate_left
    · obtain ⟨q0, q1, q2, q3, q4, q5, q6, q7, q8, q9⟩ := hSw
      go_simp
      rfl
    simp only [Act.put, sx1, sx2, sx3, sx4, sx5, sx6]
    refine ⟨_, ?_, rfl, Or.inl ⟨by rfl, fun wq hSw => Uniform.UStep.value (w' := wq) ?_ hSw⟩, ?_⟩
    rotate_left
    · obtain ⟨q0, q1, q2, q3, q4, q5, q6, q7, q8, q9⟩ := hSw
      go_simp
      rfl
    simp only [Act.put, sx1, sx2, sx3, sx4, sx5, sx6]
    refine ⟨_, ?_, rfl, Or.inl ⟨by rfl, fun wq hSw => Uniform.UStep.value (w' := wq) ?_ hSw⟩, ?_⟩
    rotate_left
    · obtain ⟨q0, q1, q2, q3, q4, q5, q6, q7, q8, q9⟩ := hSw
      go_simp
      rfl
    simp only [Act.put, sx1, sx2, sx3, sx4, sx5, sx6]
    refine ⟨_, ?_, rfl, Or.inl ⟨by rfl, fun wq hSw => Uniform.UStep.value (w' := wq) ?_ hSw⟩, ?_⟩
    rotate_left
    · obtain ⟨q0, q1, q2, q3, q4, q5, q6, q7, q8, q9⟩ := hSw
      go_simp
      rfl
    simp only [Act.put, sx1, sx2, sx3, sx4, sx5, sx6]
    refine ⟨_, _, rfl, Or.inl ⟨by rfl, fun wq hSw => Uniform.UStep.value (w' := wq) (EqHash.exec_load_row 25 _ rfl _ rfl hSw.2.2.2.2.2.1 Tryz.underlying25 rfl HFS.out) hSw⟩, ?_⟩
    simp only [Act.put, sx1, sx2, sx3, sx4, sx5, sx6]
    refine ⟨_, _, rfl, Or.inl ⟨by rfl, fun wq hSw => Uniform.UStep.value (w' := wq) (EqHash.exec_load_row 25 _ rfl _ rfl hSw.2.2.2.2.2.2.1 Tryz.underlying25 rfl HFS.out) hSw⟩, ?_⟩
    simp only [Act.put, sx1, sx2, sx3, sx4, sx5, sx6]
    refine ⟨_, ?_, rfl, Or.inl ⟨by rfl, fun wq hSw => Uniform.UStep.value (w' := wq) ?_ hSw⟩, ?_⟩
    rotate_left
    · obtain ⟨q0, q1, q2, q3, q4, q5, q6, q7, q8, q9⟩ := hSw
      go_simp
      rfl
    simp only [Act.put, sx1, sx2, sx3, sx4, sx5, sx6]
    refine ⟨_, ?_, rfl, Or.inl ⟨by rfl, fun wq hSw => Uniform.UStep.value (w' := wq) ?_ hSw⟩, ?_⟩
    rotate_left
    · obtain ⟨q0, q1, q2, q3, q4, q5, q6, q7, q8, q9⟩ := hSw
      go_simp
      rfl
    simp only [Act.put, sx1, sx2, sx3, sx4, sx5, sx6]
    refine ⟨_, ?_, rfl, Or.inl ⟨by rfl, fun wq hSw => Uniform.UStep.value (w' := wq) ?_ hSw⟩, ?_⟩
    rotate_left
    · obtain ⟨q0, q1, q2, q3, q4, q5, q6, q7, q8, q9⟩ := hSw
      go_simp
      rfl
    simp only [Act.put, sx1, sx2, sx3, sx4, sx5, sx6]
    refine ⟨_, ?_, rfl, Or.inl ⟨by rfl, fun wq hSw => Uniform.UStep.value (w' := wq) ?_ hSw⟩, ?_⟩
    rotate_left
    · obtain ⟨q0, q1, q2, q3, q4, q5, q6, q7, q8, q9⟩ := hSw
      go_simp
      rfl
    simp only [Act.put, sx1, sx2, sx3, sx4, sx5, sx6]
    refine ⟨_, ?_, rfl, Or.inl ⟨by rfl, fun wq hSw => Uniform.UStep.value (w' := wq) ?_ hSw⟩, ?_⟩
    rotate_left
    · obtain ⟨q0, q1, q2, q3, q4, q5, q6, q7, q8, q9⟩ := hSw
      go_simp
      rfl
    simp only [Act.put, sx1, sx2, sx3, sx4, sx5, sx6]
    refine ⟨_, ?_, rfl, Or.inl ⟨by rfl, fun wq hSw => Uniform.UStep.value (w' := wq) ?_ hSw⟩, ?_⟩
    rotate_left
    · obtain ⟨q0, q1, q2, q3, q4, q5, q6, q7, q8, q9⟩ := hSw
      go_simp
      rfl
    simp only [Act.put, sx1, sx2, sx3, sx4, sx5, sx6]
    refine ⟨_, ?_, rfl, Or.inl ⟨by rfl, fun wq hSw => Uniform.UStep.value (w' := wq) ?_ hSw⟩, ?_⟩
    rotate_left
    · obtain ⟨q0, q1, q2, q3, q4, q5, q6, q7, q8, q9⟩ := hSw
      go_simp
      rfl
    simp only [Act.put, sx1, sx2, sx3, sx4, sx5, sx6]
    refine ⟨_, ?_, rfl, Or.inl ⟨by rfl, fun wq hSw => Uniform.UStep.value (w' := wq) ?_ hSw⟩, ?_⟩
    rotate_left
    · obtain ⟨q0, q1, q2, q3, q4, q5, q6, q7, q8, q9⟩ := hSw
      go_simp
      rfl
    simp only [Act.put, sx1, sx2, sx3, sx4, sx5, sx6]
    intro wz hSz
    obtain ⟨_, _, _, _, _, _, _, _, _, q9⟩ := hSz
    go_wp2
    go_ret
    exact ⟨rfl, q9⟩

end Go.Proofs.YtdmonfimdinkeaaGreatDoor.HdN
