/-
  WHAT IS PROVED: by the document a list whose first text is too long has no bytes; an entry's sum, and its bytes. Condition: the variables hold what 'VarsI' and 'VarsH' say, and the strings are not longer than each theorem says.
-/
import Derived.Test.YtooincpbmlhpbaaGreatDoorEntU
import Derived.Test.YtooincpbmlhpbaaGreatDoorEntR
import Derived.Test.YtooincpbmlhpbaaGreatDoorR2
namespace Go.Proofs.YtooincpbmlhpbaaGreatDoor.EntZ
open Go Go.RowKit Go.Shelf Go.Proofs.YtooincpbmlhpbaaGreatDoor Go.Proofs.YtooincpbmlhpbaaGreatDoor.OctetS Go.Proofs.YtooincpbmlhpbaaGreatDoor.IdentS Go.Proofs.YtooincpbmlhpbaaGreatDoor.EntS Go.Proofs.YtooincpbmlhpbaaGreatDoor.OctP Go.Proofs.YtooincpbmlhpbaaGreatDoor.OctG Go.Proofs.YtooincpbmlhpbaaGreatDoor.IdentP Go.Proofs.YtooincpbmlhpbaaGreatDoor.EntP Go.Proofs.YtooincpbmlhpbaaGreatDoor.EventC Go.Proofs.YtooincpbmlhpbaaGreatDoor.EventP Go.Proofs.YtooincpbmlhpbaaGreatDoor.ShaA Go.Proofs.YtooincpbmlhpbaaGreatDoor.Steps Go.Proofs.YtooincpbmlhpbaaGreatDoor.KeyA Go.Proofs.YtooincpbmlhpbaaGreatDoor.TreeA Go.Proofs.YtooincpbmlhpbaaGreatDoor.OctQ Go.Proofs.YtooincpbmlhpbaaGreatDoor.EntX Go.Proofs.YtooincpbmlhpbaaGreatDoor.EntY Go.Proofs.YtooincpbmlhpbaaGreatDoor.EntB
set_option linter.unusedVariables false
set_option linter.unusedSimpArgs false

set_option maxRecDepth 100000 in
set_option maxHeartbeats 1000000 in
theorem List_long (w : World) (v : Value) (t : ByteArray) (r : List ByteArray) (h : Rd w v (t :: r)) (hr : r.length ≤ 100) (ht : 8192 < t.size) (ht2 : t.size ≤ 140737488351232) :
    Calls Tryz.prog 28 #[v] w (KeyA.RB (.tuple #[.string ⟨#[]⟩, .int .i64 7]) w) := by
  have hT := fun w => Ref1T.Text_no w t (by unfold maxLen; omega) ht
  obtain ⟨a, cap, rfl, hcap, hm⟩ := h.form
  obtain ⟨b, off, rfl, hbl, hcell⟩ := h.plain (by rw [strV_length]; simp)
  have hc0 : w.cell? ⟨b, off + 0, none⟩ = some (.string t) := hcell 0 _ rfl
  rw [Nat.add_zero] at hc0
  obtain ⟨n, hn⟩ : ∃ n, n = (t :: r).length := ⟨_, rfl⟩
  have hn1 : 0 < n := by rw [hn]; simp
  have hn2 : n ≤ 256 := by rw [hn]; simp; omega
  rw [← hn]
  have hN := fun w => Ref1N.Num_ok w n (by unfold OctetS.maxNum; omega)
  have Hc := Lib.hid hc0
  have HT := Lib.hid hT
  have HN := Lib.hid hN
  clear hcell hc0 h hn hcap hm hT hN
  go_enter Tryz.func28, Tryz.ntmps28
  go_wp2_with fail
  refine (HN.out w).mono ?_
  rintro e w1 ⟨rfl, hb⟩
  have hc1 : w1.cell? ⟨b, off, none⟩ = some (.string t) := (hb.cell (p := ⟨b, off, none⟩) hbl).trans Hc.out
  have HB := Lib.hid hb
  clear hb
  go_wp2
  refine wp_loop_rounds 1 ?_
  rw [rounds_succ]
  go_wp2_with fail
  refine (HT.out w1).mono ?_
  rintro e w2 ⟨rfl, rfl⟩
  go_wp2
  go_ret2
  exact ⟨rfl, HB.out⟩

theorem Sum2_ok (w : World) (s : ByteArray) (hs : s.size ≤ 140737488351232) : Calls Tryz.prog 19 #[.string s] w fun e w' => e = .returned (.agg (byV (ShaS.sum (bl s))).toArray) ∧ Below w.heap.size w w' := by
  have h := R2M.Sum_ok w s hs
  have he : ShaB.pB 32 (ShaS.sum (bl s)) = (byV (ShaS.sum (bl s))).toArray := by
    unfold ShaB.pB
    rw [ShaS.sum_length]
    simp
  rw [he] at h
  exact h

set_option maxRecDepth 100000 in
set_option maxHeartbeats 4000000 in
theorem Sum_ok (w : World) (p : Array Value) (r : ByteArray) (ep ix : Int) (pv : List UInt8) (e s : ByteArray) (hp : EntP p r ep ix pv e s) (hv : VarsI w) (hk : VarsH w) (hr : r.size ≤ 140737488351232) (he : e.size ≤ maxLen) (hs : s.size ≤ maxLen) :
    Calls Tryz.prog 12 #[.agg p] w (KeyA.RB (.tuple #[.agg (sumE (entOf r ep ix pv e s)).A, .int .i64 (whyOf (EntS.checkB (entOf r ep ix pv e s)))]) w) := by
  have hT := fun w => EntR.Text_ok w p r ep ix pv e s hp hr he hs
  unfold EntS.textOf at hT
  unfold sumE
  have hps := hp.size
  have hpi : (Tryz.prog.info? 25).map (·.size) = some 37 := by kernel_rfl
  rw [← hps] at hpi
  have HI := Lib.hid hpi
  obtain ⟨Z, hZ⟩ : ∃ Z, Z = zeroH.A := ⟨_, rfl⟩
  have HLIT : Hid ((#[.int .u8 0, .int .u8 0, .int .u8 0, .int .u8 0, .int .u8 0, .int .u8 0, .int .u8 0, .int .u8 0, .int .u8 0, .int .u8 0, .int .u8 0, .int .u8 0, .int .u8 0, .int .u8 0, .int .u8 0, .int .u8 0, .int .u8 0, .int .u8 0, .int .u8 0, .int .u8 0, .int .u8 0, .int .u8 0, .int .u8 0, .int .u8 0, .int .u8 0, .int .u8 0, .int .u8 0, .int .u8 0, .int .u8 0, .int .u8 0, .int .u8 0, .int .u8 0] : Array Value) = Z) := Lib.hid (by rw [hZ]; kernel_rfl)
  have HZN : Hid (Z.size = 32) := Lib.hid (by rw [hZ]; kernel_rfl)
  have HZS : Hid ((Tryz.prog.info? 23).map (·.size) = some Z.size) := Lib.hid (by rw [hZ]; exact H32.info _)
  have HZO : Hid (Z.all (·.oneCell') = true) := Lib.hid (by rw [hZ]; exact H32.one _)
  obtain ⟨w0, hw0⟩ : ∃ w0, w0 = (w.alloc (.cells p 25)).alloc (.cells Z 23) := ⟨_, rfl⟩
  have hb0 : Below w.heap.size w w0 := by rw [hw0]; exact ((Below.refl _ w).alloc (Nat.le_refl _) _).alloc (by simp) _
  have HX0 := Lib.hid (show w0.heap[w.heap.size]? = some (.cells p 25 (0, 0)) by rw [hw0]; exact heap_at (heap_new _ _) _)
  have HZ0 := Lib.hid (show w0.heap[w.heap.size + 1]? = some (.cells Z 23 (0, 0)) by rw [hw0]; exact heap_new' _ (by simp))
  have HBL0 := Lib.hid hb0
  have HW0 := Lib.hid hw0
  have HV0 := Lib.hid (hv.below hb0)
  have HK0 := Lib.hid (hk.below hb0)
  cases hchk : EntS.checkB (entOf r ep ix pv e s)
  · skip
    rw [hchk] at hT
    rw [if_neg (by simp), ← hZ]
    have HT := Lib.hid hT
    clear hT hchk hr he hs hp hb0 hv hk hw0 hZ hpi hps
    go_enter Tryz.func12, Tryz.ntmps12
    go_wp2_with (first | (rw [HLIT.out, ← HW0.out]; refine wpList_load_row rfl _ _ rfl w.heap.size rfl _ p (0, 0) _ HX0.out Tryz.underlying25 rfl HI.out ?_) | fail)
    refine (HT.out w0).mono ?_
    rintro e' w1 ⟨rfl, hb⟩
    have HBL1 := Lib.hid (HBL0.out.trans (hb.mono HBL0.out.size))
    have HZ1 := Lib.hid ((hb.block _ (lt_row HZ0.out)).trans HZ0.out)
    clear hb
    unfold whyOf
    go_wp2_with (first | (refine wpList_store_rowA rfl _ _ _ rfl (w.heap.size + 1) Z rfl (by rw [← HLIT.out]; rfl) _ _ HZ1.out HZS.out rfl HZO.out ?_) | fail)
    intro wf hwf
    go_wp2
    refine bodyPost_ret (v := .tuple #[.agg Z, .int .i64 2]) (WireT.results_cell_slot rfl _ _ (w.heap.size + 1) 23 Z (0, 0) _ rfl (by rw [hwf.out]; exact setRow_at HZ1.out) Tryz.underlying23 rfl HZS.out rfl) rfl ⟨rfl, by rw [hwf.out]; exact below_row HBL1.out (by omega) _⟩
  · skip
    rw [hchk] at hT
    rw [if_pos rfl] at hT ⊢
    have hR := EntS.check_iff.1 hchk
    have hlen := ent_len hR hp.len
    obtain ⟨t, ht⟩ : ∃ t, t = EntS.text (entOf r ep ix pv e s) := ⟨_, rfl⟩
    rw [← ht] at hT hlen ⊢
    obtain ⟨R, hRe⟩ : ∃ R, R = (sumH t).A := ⟨_, rfl⟩
    have HRS : Hid ((Tryz.prog.info? 23).map (·.size) = some R.size) := Lib.hid (by rw [hRe]; exact H32.info _)
    have HRN : Hid (Z.size = R.size) := Lib.hid (by rw [hRe, H32.size]; exact HZN.out)
    have HRO : Hid (R.all (·.oneCell') = true) := Lib.hid (by rw [hRe]; exact H32.one _)
    obtain ⟨Tb, hTb⟩ : ∃ Tb, Tb = bsOf t := ⟨_, rfl⟩
    rw [← hTb] at hT
    have hS := fun w => Sum2_ok w Tb (by rw [hTb, size_bsOf]; omega)
    have hRR : (byV (ShaS.sum (bl Tb))).toArray = R := by rw [hTb, bl_bsOf, hRe, sumH_A]
    rw [hRR] at hS
    rw [← hRe]
    have HT := Lib.hid hT
    have HS := Lib.hid hS
    clear hT hS hRR hRe hTb ht hlen hR hchk hr he hs hp hb0 hv hk hw0 hZ hpi hps
    go_enter Tryz.func12, Tryz.ntmps12
    go_wp2_with (first | (rw [HLIT.out, ← HW0.out]; refine wpList_load_row rfl _ _ rfl w.heap.size rfl _ p (0, 0) _ HX0.out Tryz.underlying25 rfl HI.out ?_) | fail)
    refine (HT.out w0).mono ?_
    rintro e' w1 ⟨rfl, hb⟩
    have HBL1 := Lib.hid (HBL0.out.trans (hb.mono HBL0.out.size))
    have HZ1 := Lib.hid ((hb.block _ (lt_row HZ0.out)).trans HZ0.out)
    have HK1 := Lib.hid (HK0.out.below hb)
    clear hb
    unfold whyOf
    go_wp2_with fail
    refine (HS.out w1).mono ?_
    rintro e' w2 ⟨rfl, hb⟩
    have HBL2 := Lib.hid (HBL1.out.trans (hb.mono HBL1.out.size))
    have HZ2 := Lib.hid ((hb.block _ (lt_row HZ1.out)).trans HZ1.out)
    clear hb
    go_wp2_with (first | (refine wpList_store_rowA rfl _ _ _ rfl (w.heap.size + 1) R rfl rfl _ _ HZ2.out HRS.out HRN.out HRO.out ?_) | fail)
    intro wf hwf
    go_wp2
    refine bodyPost_ret (v := .tuple #[.agg R, .int .i64 0]) (WireT.results_cell_slot rfl _ _ (w.heap.size + 1) 23 R (0, 0) _ rfl (by rw [hwf.out]; exact setRow_at HZ2.out) Tryz.underlying23 rfl HRS.out rfl) rfl ⟨rfl, by rw [hwf.out]; exact below_row HBL2.out (by omega) _⟩

set_option maxRecDepth 100000 in
set_option maxHeartbeats 4000000 in
theorem Bytes_ok (w : World) (p : Array Value) (r : ByteArray) (ep ix : Int) (pv : List UInt8) (e s : ByteArray) (hp : EntP p r ep ix pv e s) (hv : VarsI w) (hr : r.size ≤ 140737488351232) (he : e.size ≤ maxLen) (hs : s.size ≤ maxLen) :
    Calls Tryz.prog 13 #[.agg p] w (KeyA.RB (.tuple #[.string (bsOf (bytesW (entOf r ep ix pv e s)).1), .int .i64 (bytesW (entOf r ep ix pv e s)).2]) w) := by
  have hT := fun w => EntR.Text_ok w p r ep ix pv e s hp hr he hs
  unfold EntS.textOf at hT
  rw [bytesW_ok]
  have hps := hp.size
  have hpi : (Tryz.prog.info? 25).map (·.size) = some 37 := by kernel_rfl
  rw [← hps] at hpi
  have HI := Lib.hid hpi
  have p36 : p[36]? = some (.string s) := by
    rw [hp.eq]
    unfold entA
    have hl : (byV pv).length = 32 := by rw [byV_length, hp.len]
    simp [hl]
  obtain ⟨w0, hw0⟩ : ∃ w0, w0 = w.alloc (.cells p 25) := ⟨_, rfl⟩
  have hb0 : Below w.heap.size w w0 := by rw [hw0]; exact (Below.refl _ w).alloc (Nat.le_refl _) _
  have HX0 := Lib.hid (show w0.heap[w.heap.size]? = some (.cells p 25 (0, 0)) by rw [hw0]; exact heap_new _ _)
  have HBL0 := Lib.hid hb0
  have HW0 := Lib.hid hw0
  have HV0 := Lib.hid (hv.below hb0)
  cases hchk : EntS.checkB (entOf r ep ix pv e s)
  · skip
    rw [hchk] at hT
    rw [if_neg (by simp)]
    have HT := Lib.hid hT
    clear hT hchk hr he hs hp hb0 hv hw0 hpi hps p36
    go_enter Tryz.func13, Tryz.ntmps13
    go_wp2_with (first | (rw [← HW0.out]; refine wpList_load_row rfl _ _ rfl w.heap.size rfl _ p (0, 0) _ HX0.out Tryz.underlying25 rfl HI.out ?_) | fail)
    refine (HT.out w0).mono ?_
    rintro e' w1 ⟨rfl, hb⟩
    have HBL1 := Lib.hid (HBL0.out.trans (hb.mono HBL0.out.size))
    clear hb
    unfold whyOf
    go_wp2
    go_ret2
    exact ⟨rfl, HBL1.out⟩
  · skip
    rw [hchk] at hT
    rw [if_pos rfl] at hT ⊢
    have hR := EntS.check_iff.1 hchk
    have hlen := EntX.ent_len hR hp.len
    have hsig := hR.sig
    have hbf : (EntS.text (entOf r ep ix pv e s)).length ≤ 8192 → fits [EntS.text (entOf r ep ix pv e s), bl s] = true := fun h => bytes_fits hR h
    have hbe : bytesE (entOf r ep ix pv e s) = OctetS.list [EntS.text (entOf r ep ix pv e s), bl s] := rfl
    rw [hbe]
    obtain ⟨t, ht⟩ : ∃ t, t = EntS.text (entOf r ep ix pv e s) := ⟨_, rfl⟩
    rw [← ht] at hT hlen hbf ⊢
    obtain ⟨Tb, hTb⟩ : ∃ Tb, Tb = bsOf t := ⟨_, rfl⟩
    have hTl : bl Tb = t := by rw [hTb, bl_bsOf]
    have hTs : Tb.size = t.length := by rw [hTb, size_bsOf]
    rw [← hTb] at hT
    have hL : ∀ w v, Rd w v [Tb, s] → Calls Tryz.prog 28 #[v] w (KeyA.RB (.tuple #[.string (bsOf (if t.length ≤ 8192 then (OctetS.list [t, bl s], (0 : Int)) else ([], 7)).1), .int .i64 (if t.length ≤ 8192 then (OctetS.list [t, bl s], (0 : Int)) else ([], 7)).2]) w) := fun w v hrd => by
      by_cases h8 : t.length ≤ 8192
      · rw [if_pos h8]
        have := Ref1L.List_ok w v [Tb, s] hrd (by simp only [List.map_cons, List.map_nil, hTl]; exact hbf h8)
        simp only [List.map_cons, List.map_nil, hTl] at this
        exact this
      · rw [if_neg h8]
        exact EntZ.List_long w v Tb [s] hrd (by simp) (by omega) (by omega)
    obtain ⟨O, hO⟩ : ∃ O, O = bsOf (if t.length ≤ 8192 then (OctetS.list [t, bl s], (0 : Int)) else ([], 7)).1 := ⟨_, rfl⟩
    obtain ⟨E, hE⟩ : ∃ E, E = (if t.length ≤ 8192 then (OctetS.list [t, bl s], (0 : Int)) else ([], 7)).2 := ⟨_, rfl⟩
    rw [← hO, ← hE] at hL ⊢
    have HT := Lib.hid hT
    have HL := Lib.hid hL
    clear hL hO hE hT hTb hTl hTs ht hbf hbe hlen hsig hR hchk hr he hs hp hb0 hv hw0 hpi hps
    go_enter Tryz.func13, Tryz.ntmps13
    go_wp2_with (first | (rw [← HW0.out]; refine wpList_load_row rfl _ _ rfl w.heap.size rfl _ p (0, 0) _ HX0.out Tryz.underlying25 rfl HI.out ?_) | fail)
    refine (HT.out w0).mono ?_
    rintro e' w1 ⟨rfl, hb⟩
    have HBL1 := Lib.hid (HBL0.out.trans (hb.mono HBL0.out.size))
    have HX1 := Lib.hid ((hb.block _ (lt_row HX0.out)).trans HX0.out)
    clear hb
    have hc36 : w1.cell? ⟨w.heap.size, 36, none⟩ = some (.string s) := by rw [cell_row HX1.out]; exact p36
    unfold whyOf
    go_wp2_with fail
    refine (HL.out _ _ (EventB.sl_built (n := 2) (heap_new _ _) rfl (by simp [maxLen]))).mono ?_
    rintro e' w2 ⟨rfl, hb⟩
    have HBL2 := Lib.hid (HBL1.out.trans ((((Below.refl _ w1).alloc (Nat.le_refl _) _).trans (hb.mono (by simp))).mono HBL1.out.size))
    clear hb
    go_wp2
    go_ret2
    exact ⟨rfl, HBL2.out⟩

end Go.Proofs.YtooincpbmlhpbaaGreatDoor.EntZ
