/-
  WHAT IS PROVED: by the document a list whose first text is too long has no bytes; an entry's sum, and its bytes. Condition: the variables hold what 'VarsI' and 'VarsH' say, and the strings are not longer than each theorem says.
-/
import Derived.Test.YtdmonfimdinkeaaGreatDoorEntU
import Derived.Test.YtdmonfimdinkeaaGreatDoorEntR
import Derived.Test.YtdmonfimdinkeaaGreatDoorR2
namespace Go.Proofs.YtdmonfimdinkeaaGreatDoor.EntZ
open Go Go.RowKit Go.Shelf Go.Proofs.YtdmonfimdinkeaaGreatDoor Go.Proofs.YtdmonfimdinkeaaGreatDoor.OctetS Go.Proofs.YtdmonfimdinkeaaGreatDoor.IdentS Go.Proofs.YtdmonfimdinkeaaGreatDoor.EntS Go.Proofs.YtdmonfimdinkeaaGreatDoor.OctP Go.Proofs.YtdmonfimdinkeaaGreatDoor.OctG Go.Proofs.YtdmonfimdinkeaaGreatDoor.IdentP Go.Proofs.YtdmonfimdinkeaaGreatDoor.EntP Go.Proofs.YtdmonfimdinkeaaGreatDoor.EventC Go.Proofs.YtdmonfimdinkeaaGreatDoor.EventP Go.Proofs.YtdmonfimdinkeaaGreatDoor.ShaA Go.Proofs.YtdmonfimdinkeaaGreatDoor.Steps Go.Proofs.YtdmonfimdinkeaaGreatDoor.KeyA Go.Proofs.YtdmonfimdinkeaaGreatDoor.TreeA Go.Proofs.YtdmonfimdinkeaaGreatDoor.OctQ Go.Proofs.YtdmonfimdinkeaaGreatDoor.EntX Go.Proofs.YtdmonfimdinkeaaGreatDoor.EntY
set_option linter.unusedVariables false
set_option linter.unusedSimpArgs false

theorem Sum2_ok (w : World) (s : ByteArray) (hs : s.size ≤ 140737488351232) : Calls Tryz.prog 75 #[.string s] w fun e w' => e = .returned (.agg (byV (ShaS.sum (bl s))).toArray) ∧ Below w.heap.size w w' := by
  have h := R2M.Sum_ok w s hs
  have he : ShaB.pB 32 (ShaS.sum (bl s)) = (byV (ShaS.sum (bl s))).toArray := by
    unfold ShaB.pB
    rw [ShaS.sum_length]
    simp
  rw [he] at h
  exact h

set_option maxRecDepth 100000 in
set_option maxHeartbeats 4000000 in
theorem Sum_ok (w : World) (p : Array Value) (r : ByteArray) (ep ix : Int) (pv : List UInt8) (e s : ByteArray) (hp : EntP p r ep ix pv e s) (hv : VarsI w) (hk : VarsH w) (hr : r.size ≤ 140737488351232) (he : e.size ≤ maxLen) (hs : s.size ≤ maxLen) :
    Calls Tryz.prog 48 #[.agg p] w (KeyA.RB (.tuple #[.agg (sumE (entOf r ep ix pv e s)).A, .int .i64 (whyOf (EntS.checkB (entOf r ep ix pv e s)))]) w) := by
  have hT := fun w => EntR.Text_ok w p r ep ix pv e s hp hr he hs
  unfold EntS.textOf at hT
  unfold sumE
  have hps := hp.size
  have hpi : (Tryz.prog.info? 27).map (·.size) = some 37 := by kernel_rfl
  rw [← hps] at hpi
  have HI := Lib.hid hpi
  obtain ⟨Z, hZ⟩ : ∃ Z, Z = zeroH.A := ⟨_, rfl⟩
  have HLIT : Hid ((#[.int .u8 0, .int .u8 0, .int .u8 0, .int .u8 0, .int .u8 0, .int .u8 0, .int .u8 0, .int .u8 0, .int .u8 0, .int .u8 0, .int .u8 0, .int .u8 0, .int .u8 0, .int .u8 0, .int .u8 0, .int .u8 0, .int .u8 0, .int .u8 0, .int .u8 0, .int .u8 0, .int .u8 0, .int .u8 0, .int .u8 0, .int .u8 0, .int .u8 0, .int .u8 0, .int .u8 0, .int .u8 0, .int .u8 0, .int .u8 0, .int .u8 0, .int .u8 0] : Array Value) = Z) := Lib.hid (by rw [hZ]; kernel_rfl)
  have HZN : Hid (Z.size = 32) := Lib.hid (by rw [hZ]; kernel_rfl)
  have HZS : Hid ((Tryz.prog.info? 23).map (·.size) = some Z.size) := Lib.hid (by rw [hZ]; exact H32.info _)
  have HZO : Hid (Z.all (·.oneCell') = true) := Lib.hid (by rw [hZ]; exact H32.one _)
  obtain ⟨w0, hw0⟩ : ∃ w0, w0 = (w.alloc (.cells p 27)).alloc (.cells Z 23) := ⟨_, rfl⟩
  have hb0 : Below w.heap.size w w0 := by rw [hw0]; exact ((Below.refl _ w).alloc (Nat.le_refl _) _).alloc (by simp) _
  have HX0 := Lib.hid (show w0.heap[w.heap.size]? = some (.cells p 27 (0, 0)) by rw [hw0]; exact heap_at (heap_new _ _) _)
  have HZ0 := Lib.hid (show w0.heap[w.heap.size + 1]? = some (.cells Z 23 (0, 0)) by rw [hw0]; exact heap_new' _ (by simp))
  have HBL0 := Lib.hid hb0
  have HW0 := Lib.hid hw0
  have HV0 := Lib.hid (hv.below hb0)
  have HK0 := Lib.hid (hk.below hb0)
  cases hchk : EntS.checkB (entOf r ep ix pv e s)
  · skip
    rw [hchk] at hT
    rw [if_neg (by simp), ← hZ]
    have HT := Lib.hid hT
    clear hT hchk hr he hs hp hb0 hv hk hw0 hZ hpi hps
    go_enter Tryz.func48, Tryz.ntmps48
    go_wp2_with (first | (rw [HLIT.out, ← HW0.out]; refine wpList_load_row rfl _ _ rfl w.heap.size rfl _ p (0, 0) _ HX0.out Tryz.underlying27 rfl HI.out ?_) | fail)
    refine (HT.out w0).mono ?_
    rintro e' w1 ⟨rfl, hb⟩
    have HBL1 := Lib.hid (HBL0.out.trans (hb.mono HBL0.out.size))
    have HZ1 := Lib.hid ((hb.block _ (lt_row HZ0.out)).trans HZ0.out)
    clear hb
    unfold whyOf
    go_wp2_with (first | (refine wpList_store_rowA rfl _ _ _ rfl (w.heap.size + 1) Z rfl (by rw [← HLIT.out]; rfl) _ _ HZ1.out HZS.out rfl HZO.out ?_) | fail)
    intro wf hwf
    go_wp2
    refine bodyPost_ret (v := .tuple #[.agg Z, .int .i64 2]) (WireT.results_cell_slot rfl _ _ (w.heap.size + 1) 23 Z (0, 0) _ rfl (by rw [hwf.out]; exact setRow_at HZ1.out) Tryz.underlying23 rfl HZS.out rfl) rfl ⟨rfl, by rw [hwf.out]; exact below_row HBL1.out (by omega) _⟩
  · skip
    rw [hchk] at hT
    rw [if_pos rfl] at hT ⊢
    have hR := EntS.check_iff.1 hchk
    have hlen := ent_len hR hp.len
    obtain ⟨t, ht⟩ : ∃ t, t = EntS.text (entOf r ep ix pv e s) := ⟨_, rfl⟩
    rw [← ht] at hT hlen ⊢
    obtain ⟨R, hRe⟩ : ∃ R, R = (sumH t).A := ⟨_, rfl⟩
    have HRS : Hid ((Tryz.prog.info? 23).map (·.size) = some R.size) := Lib.hid (by rw [hRe]; exact H32.info _)
    have HRN : Hid (Z.size = R.size) := Lib.hid (by rw [hRe, H32.size]; exact HZN.out)
    have HRO : Hid (R.all (·.oneCell') = true) := Lib.hid (by rw [hRe]; exact H32.one _)
    obtain ⟨Tb, hTb⟩ : ∃ Tb, Tb = bsOf t := ⟨_, rfl⟩
    rw [← hTb] at hT
    have hS := fun w => Sum2_ok w Tb (by rw [hTb, size_bsOf]; omega)
    have hRR : (byV (ShaS.sum (bl Tb))).toArray = R := by rw [hTb, bl_bsOf, hRe, sumH_A]
    rw [hRR] at hS
    rw [← hRe]
    have HT := Lib.hid hT
    have HS := Lib.hid hS
    clear hT hS hRR hRe hTb ht hlen hR hchk hr he hs hp hb0 hv hk hw0 hZ hpi hps
    go_enter Tryz.func48, Tryz.ntmps48
    go_wp2_with (first | (rw [HLIT.out, ← HW0.out]; refine wpList_load_row rfl _ _ rfl w.heap.size rfl _ p (0, 0) _ HX0.out Tryz.underlying27 rfl HI.out ?_) | fail)
    refine (HT.out w0).mono ?_
    rintro e' w1 ⟨rfl, hb⟩
    have HBL1 := Lib.hid (HBL0.out.trans (hb.mono HBL0.out.size))
    have HZ1 := Lib.hid ((hb.block _ (lt_row HZ0.out)).trans HZ0.out)
    have HK1 := Lib.hid (HK0.out.below hb)
    clear hb
    unfold whyOf
    go_wp2_with fail
    refine (HS.out w1).mono ?_
    rintro e' w2 ⟨rfl, hb⟩
    have HBL2 := Lib.hid (HBL1.out.trans (hb.mono HBL1.out.size))
    have HZ2 := Lib.hid ((hb.block _ (lt_row HZ1.out)).trans HZ1.out)
    clear hb
    go_wp2_with (first | (refine wpList_store_rowA rfl _ _ _ rfl (w.heap.size + 1) R rfl rfl _ _ HZ2.out HRS.out HRN.out HRO.out ?_) | fail)
    intro wf hwf
    go_wp2
    refine bodyPost_ret (v := .tuple #[.agg R, .int .i64 0]) (WireT.results_cell_slot rfl _ _ (w.heap.size + 1) 23 R (0, 0) _ rfl (by rw [hwf.out]; exact setRow_at HZ2.out) Tryz.underlying23 rfl HRS.out rfl) rfl ⟨rfl, by rw [hwf.out]; exact below_row HBL2.out (by omega) _⟩

end Go.Proofs.YtdmonfimdinkeaaGreatDoor.EntZ
