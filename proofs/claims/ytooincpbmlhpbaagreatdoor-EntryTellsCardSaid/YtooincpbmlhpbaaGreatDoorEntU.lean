/-
  WHAT IS PROVED: entries' sums, bytes, signatures, and the statements' own check of them. Condition: what each theorem names.
-/
import Derived.Test.YtooincpbmlhpbaaGreatDoorKeyQ
import Derived.Test.YtooincpbmlhpbaaGreatDoorEntB
import Derived.Test.YtooincpbmlhpbaaGreatDoorEnt
import Derived.LoopN
import Derived.Test.YtooincpbmlhpbaaGreatDoorBook
import Derived.Test.YtooincpbmlhpbaaGreatDoorWireT
import Derived.Test.YtooincpbmlhpbaaGreatDoorEqHash
import Derived.Test.YtooincpbmlhpbaaGreatDoorKeyN
import Derived.Test.YtooincpbmlhpbaaGreatDoorWireB
import Derived.Laws.StructEq
namespace Go.Proofs.YtooincpbmlhpbaaGreatDoor.EntX
open Go Go.RowKit Go.Shelf Go.Proofs.YtooincpbmlhpbaaGreatDoor Go.Proofs.YtooincpbmlhpbaaGreatDoor.OctetS Go.Proofs.YtooincpbmlhpbaaGreatDoor.IdentS Go.Proofs.YtooincpbmlhpbaaGreatDoor.EntS Go.Proofs.YtooincpbmlhpbaaGreatDoor.OctP Go.Proofs.YtooincpbmlhpbaaGreatDoor.OctG Go.Proofs.YtooincpbmlhpbaaGreatDoor.IdentP Go.Proofs.YtooincpbmlhpbaaGreatDoor.EntP Go.Proofs.YtooincpbmlhpbaaGreatDoor.EventC Go.Proofs.YtooincpbmlhpbaaGreatDoor.EventP Go.Proofs.YtooincpbmlhpbaaGreatDoor.ShaA Go.Proofs.YtooincpbmlhpbaaGreatDoor.Steps Go.Proofs.YtooincpbmlhpbaaGreatDoor.KeyA Go.Proofs.YtooincpbmlhpbaaGreatDoor.TreeA
set_option linter.unusedVariables false
set_option linter.unusedSimpArgs false

theorem text_len {t : List UInt8} (h : t.length ≤ 8192) : (OctetS.text t).length ≤ 8194 := by
  unfold OctetS.text
  have := OctetS.num_length2 h
  rw [List.length_append]
  omega
theorem flat_len : ∀ (l : List (List UInt8)), (∀ t ∈ l, t.length ≤ 8192) → (l.flatMap OctetS.text).length ≤ 8194 * l.length
  | [], _ => by simp
  | t :: r, h => by
    have h1 := text_len (h t (by simp))
    have h2 := flat_len r (fun x hx => h x (by simp [hx]))
    simp only [List.flatMap_cons, List.length_append, List.length_cons]
    omega
theorem ent_len {e : Ent} (h : Right e) (hp : e.prev.length = 32) : (EntS.text e).length ≤ 100000 := by
  obtain ⟨h1, h2⟩ := fits_iff.1 (h.fits hp)
  have h3 := flat_len _ h2
  have h4 : (EntS.parts e).length = 6 := rfl
  have h5 := OctetS.num_length2 (n := 6) (by omega)
  unfold EntS.text OctetS.list
  rw [List.length_append, h4]
  rw [h4] at h3
  omega
def sumH (t : List UInt8) : H32 := KeyJ.mk32 (ShaS.sum t) (ShaS.sum_length t)
theorem sumH_A (t : List UInt8) : (sumH t).A = (byV (ShaS.sum t)).toArray := by
  unfold sumH
  exact KeyJ.mk32_A _ _
/-- An entry's sum, and why there is none. -/
def sumE (e : Ent) : H32 := if checkB e = true then sumH (EntS.text e) else zeroH

set_option maxRecDepth 100000 in
set_option maxHeartbeats 4000000 in
theorem Sum_ok (w : World) (p : Array Value) (r : ByteArray) (ep ix : Int) (pv : List UInt8) (e s : ByteArray) (hp : EntP p r ep ix pv e s) (hv : VarsI w) (hk : VarsH w) (hr : r.size ≤ 140737488351232) (he : e.size ≤ maxLen) (hs : s.size ≤ maxLen) :
    Calls Tryz.prog 11 #[.agg p] w (KeyA.RB (.tuple #[.agg (sumE (entOf r ep ix pv e s)).A, .int .i64 (whyOf (EntS.checkB (entOf r ep ix pv e s)))]) w) := by
  have hT := fun w hv => Text_ok w p r ep ix pv e s hp hv hr he hs
  unfold EntS.textOf at hT
  unfold sumE
  have hps := hp.size
  have hpi : (Tryz.prog.info? 25).map (·.size) = some 37 := by kernel_rfl
  rw [← hps] at hpi
  have HI := Lib.hid hpi
  obtain ⟨Z, hZ⟩ : ∃ Z, Z = zeroH.A := ⟨_, rfl⟩
  have HLIT : Hid ((#[.int .u8 0, .int .u8 0, .int .u8 0, .int .u8 0, .int .u8 0, .int .u8 0, .int .u8 0, .int .u8 0, .int .u8 0, .int .u8 0, .int .u8 0, .int .u8 0, .int .u8 0, .int .u8 0, .int .u8 0, .int .u8 0, .int .u8 0, .int .u8 0, .int .u8 0, .int .u8 0, .int .u8 0, .int .u8 0, .int .u8 0, .int .u8 0, .int .u8 0, .int .u8 0, .int .u8 0, .int .u8 0, .int .u8 0, .int .u8 0, .int .u8 0, .int .u8 0] : Array Value) = Z) := Lib.hid (by rw [hZ]; kernel_rfl)
  have HZN : Hid (Z.size = 32) := Lib.hid (by rw [hZ]; kernel_rfl)
  have HZS : Hid ((Tryz.prog.info? 23).map (·.size) = some Z.size) := Lib.hid (by rw [hZ]; exact H32.info _)
  have HZO : Hid (Z.all (·.oneCell') = true) := Lib.hid (by rw [hZ]; exact H32.one _)
  obtain ⟨w0, hw0⟩ : ∃ w0, w0 = (w.alloc (.cells p 25)).alloc (.cells Z 23) := ⟨_, rfl⟩
  have hb0 : Below w.heap.size w w0 := by rw [hw0]; exact ((Below.refl _ w).alloc (Nat.le_refl _) _).alloc (by simp) _
  have HX0 := Lib.hid (show w0.heap[w.heap.size]? = some (.cells p 25 (0, 0)) by rw [hw0]; exact heap_at (heap_new _ _) _)
  have HZ0 := Lib.hid (show w0.heap[w.heap.size + 1]? = some (.cells Z 23 (0, 0)) by rw [hw0]; exact heap_new' _ (by simp))
  have HBL0 := Lib.hid hb0
  have HW0 := Lib.hid hw0
  have HV0 := Lib.hid (hv.below hb0)
  have HK0 := Lib.hid (hk.below hb0)
  cases hchk : EntS.checkB (entOf r ep ix pv e s)
  · skip
    rw [hchk] at hT
    rw [if_neg (by simp), ← hZ]
    have HT := Lib.hid hT
    clear hT hchk hr he hs hp hb0 hv hk hw0 hZ hpi hps
    go_enter Tryz.func11, Tryz.ntmps11
    go_wp2_with (first | (rw [HLIT.out, ← HW0.out]; refine wpList_load_row rfl _ _ rfl w.heap.size rfl _ p (0, 0) _ HX0.out Tryz.underlying25 rfl HI.out ?_) | fail)
    refine (HT.out w0 HV0.out).mono ?_
    rintro e' w1 ⟨rfl, hb⟩
    have HBL1 := Lib.hid (HBL0.out.trans (hb.mono HBL0.out.size))
    have HZ1 := Lib.hid ((hb.block _ (lt_row HZ0.out)).trans HZ0.out)
    clear hb
    unfold whyOf
    go_wp2_with (first | (refine wpList_store_rowA rfl _ _ _ rfl (w.heap.size + 1) Z rfl (by rw [← HLIT.out]; rfl) _ _ HZ1.out HZS.out rfl HZO.out ?_) | fail)
    intro wf hwf
    go_wp2
    refine bodyPost_ret (v := .tuple #[.agg Z, .int .i64 2]) (WireT.results_cell_slot rfl _ _ (w.heap.size + 1) 23 Z (0, 0) _ rfl (by rw [hwf.out]; exact setRow_at HZ1.out) Tryz.underlying23 rfl HZS.out rfl) rfl ⟨rfl, by rw [hwf.out]; exact below_row HBL1.out (by omega) _⟩
  · skip
    rw [hchk] at hT
    rw [if_pos rfl] at hT ⊢
    have hR := EntS.check_iff.1 hchk
    have hlen := ent_len hR hp.len
    obtain ⟨t, ht⟩ : ∃ t, t = EntS.text (entOf r ep ix pv e s) := ⟨_, rfl⟩
    rw [← ht] at hT hlen ⊢
    obtain ⟨R, hRe⟩ : ∃ R, R = (sumH t).A := ⟨_, rfl⟩
    have HRS : Hid ((Tryz.prog.info? 23).map (·.size) = some R.size) := Lib.hid (by rw [hRe]; exact H32.info _)
    have HRN : Hid (Z.size = R.size) := Lib.hid (by rw [hRe, H32.size]; exact HZN.out)
    have HRO : Hid (R.all (·.oneCell') = true) := Lib.hid (by rw [hRe]; exact H32.one _)
    obtain ⟨Tb, hTb⟩ : ∃ Tb, Tb = bsOf t := ⟨_, rfl⟩
    rw [← hTb] at hT
    have hS := fun w hk => ShaM.Sum_ok w Tb (by rw [hTb, size_bsOf]; omega) hk
    have hRR : (byV (ShaS.sum (bl Tb))).toArray = R := by rw [hTb, bl_bsOf, hRe, sumH_A]
    rw [hRR] at hS
    rw [← hRe]
    have HT := Lib.hid hT
    have HS := Lib.hid hS
    clear hT hS hRR hRe hTb ht hlen hR hchk hr he hs hp hb0 hv hk hw0 hZ hpi hps
    go_enter Tryz.func11, Tryz.ntmps11
    go_wp2_with (first | (rw [HLIT.out, ← HW0.out]; refine wpList_load_row rfl _ _ rfl w.heap.size rfl _ p (0, 0) _ HX0.out Tryz.underlying25 rfl HI.out ?_) | fail)
    refine (HT.out w0 HV0.out).mono ?_
    rintro e' w1 ⟨rfl, hb⟩
    have HBL1 := Lib.hid (HBL0.out.trans (hb.mono HBL0.out.size))
    have HZ1 := Lib.hid ((hb.block _ (lt_row HZ0.out)).trans HZ0.out)
    have HK1 := Lib.hid (HK0.out.below hb)
    clear hb
    unfold whyOf
    go_wp2_with fail
    refine (HS.out w1 HK1.out).mono ?_
    rintro e' w2 ⟨rfl, hb⟩
    have HBL2 := Lib.hid (HBL1.out.trans (hb.mono HBL1.out.size))
    have HZ2 := Lib.hid ((hb.block _ (lt_row HZ1.out)).trans HZ1.out)
    clear hb
    go_wp2_with (first | (refine wpList_store_rowA rfl _ _ _ rfl (w.heap.size + 1) R rfl rfl _ _ HZ2.out HRS.out HRN.out HRO.out ?_) | fail)
    intro wf hwf
    go_wp2
    refine bodyPost_ret (v := .tuple #[.agg R, .int .i64 0]) (WireT.results_cell_slot rfl _ _ (w.heap.size + 1) 23 R (0, 0) _ rfl (by rw [hwf.out]; exact setRow_at HZ2.out) Tryz.underlying23 rfl HRS.out rfl) rfl ⟨rfl, by rw [hwf.out]; exact below_row HBL2.out (by omega) _⟩

end Go.Proofs.YtooincpbmlhpbaaGreatDoor.EntX

namespace Go.Proofs.YtooincpbmlhpbaaGreatDoor.EntY
open Go Go.RowKit Go.Shelf Go.Proofs.YtooincpbmlhpbaaGreatDoor Go.Proofs.YtooincpbmlhpbaaGreatDoor.OctetS Go.Proofs.YtooincpbmlhpbaaGreatDoor.IdentS Go.Proofs.YtooincpbmlhpbaaGreatDoor.EntS Go.Proofs.YtooincpbmlhpbaaGreatDoor.OctP Go.Proofs.YtooincpbmlhpbaaGreatDoor.OctQ Go.Proofs.YtooincpbmlhpbaaGreatDoor.OctG Go.Proofs.YtooincpbmlhpbaaGreatDoor.IdentP Go.Proofs.YtooincpbmlhpbaaGreatDoor.EntP Go.Proofs.YtooincpbmlhpbaaGreatDoor.EventC Go.Proofs.YtooincpbmlhpbaaGreatDoor.EventP Go.Proofs.YtooincpbmlhpbaaGreatDoor.ShaA Go.Proofs.YtooincpbmlhpbaaGreatDoor.Steps Go.Proofs.YtooincpbmlhpbaaGreatDoor.KeyA Go.Proofs.YtooincpbmlhpbaaGreatDoor.EntB
set_option linter.unusedVariables false
set_option linter.unusedSimpArgs false

set_option maxRecDepth 100000 in
set_option maxHeartbeats 1000000 in
theorem List_long (w : World) (v : Value) (t : ByteArray) (r : List ByteArray) (h : Rd w v (t :: r)) (hr : r.length ≤ 100) (ht : 8192 < t.size) (ht2 : t.size ≤ 140737488351232) :
    Calls Tryz.prog 24 #[v] w (KeyA.RB (.tuple #[.string ⟨#[]⟩, .int .i64 7]) w) := by
  obtain ⟨a, cap, rfl, hcap, hm⟩ := h.form
  obtain ⟨b, off, rfl, hbl, hcell⟩ := h.plain (by rw [strV_length]; simp)
  have hc0 : w.cell? ⟨b, off + 0, none⟩ = some (.string t) := hcell 0 _ rfl
  rw [Nat.add_zero] at hc0
  obtain ⟨n, hn⟩ : ∃ n, n = (t :: r).length := ⟨_, rfl⟩
  have hn1 : 0 < n := by rw [hn]; simp
  have hn2 : n ≤ 256 := by rw [hn]; simp; omega
  rw [← hn]
  have Hc := Lib.hid hc0
  clear hcell hc0 h hn hcap hm
  go_enter Tryz.func24, Tryz.ntmps24
  go_wp2_with fail
  refine (put_ok w w.heap.size (.slice none 0 0) [] n (Ow.nil _ _ _ _) (by omega) (by simp) (Nat.le_refl _)).mono ?_
  rintro e w1 ⟨v1, rfl, hG⟩
  have hb := hG.ofNil
  have hc1 : w1.cell? ⟨b, off, none⟩ = some (.string t) := (hb.cell (p := ⟨b, off, none⟩) hbl).trans Hc.out
  have HB := Lib.hid hb
  clear hb hG
  go_wp2
  refine wp_loop_rounds 1 ?_
  rw [rounds_succ]
  go_wp2
  go_ret2
  exact ⟨rfl, HB.out⟩

/-- An entry's bytes. -/
theorem bytesW_ok {e : Ent} : bytesW e = (if checkB e = true then (if (EntS.text e).length ≤ 8192 then (bytesE e, 0) else ([], 7)) else ([], 2)) := rfl
set_option maxRecDepth 100000 in
set_option maxHeartbeats 4000000 in
theorem Bytes_ok (w : World) (p : Array Value) (r : ByteArray) (ep ix : Int) (pv : List UInt8) (e s : ByteArray) (hp : EntP p r ep ix pv e s) (hv : VarsI w) (hr : r.size ≤ 140737488351232) (he : e.size ≤ maxLen) (hs : s.size ≤ maxLen) :
    Calls Tryz.prog 7 #[.agg p] w (KeyA.RB (.tuple #[.string (bsOf (bytesW (entOf r ep ix pv e s)).1), .int .i64 (bytesW (entOf r ep ix pv e s)).2]) w) := by
  have hT := fun w hv => Text_ok w p r ep ix pv e s hp hv hr he hs
  unfold EntS.textOf at hT
  rw [bytesW_ok]
  have hps := hp.size
  have hpi : (Tryz.prog.info? 25).map (·.size) = some 37 := by kernel_rfl
  rw [← hps] at hpi
  have HI := Lib.hid hpi
  have p36 : p[36]? = some (.string s) := by
    rw [hp.eq]
    unfold entA
    have hl : (byV pv).length = 32 := by rw [byV_length, hp.len]
    simp [hl]
  obtain ⟨w0, hw0⟩ : ∃ w0, w0 = w.alloc (.cells p 25) := ⟨_, rfl⟩
  have hb0 : Below w.heap.size w w0 := by rw [hw0]; exact (Below.refl _ w).alloc (Nat.le_refl _) _
  have HX0 := Lib.hid (show w0.heap[w.heap.size]? = some (.cells p 25 (0, 0)) by rw [hw0]; exact heap_new _ _)
  have HBL0 := Lib.hid hb0
  have HW0 := Lib.hid hw0
  have HV0 := Lib.hid (hv.below hb0)
  cases hchk : EntS.checkB (entOf r ep ix pv e s)
  · skip
    rw [hchk] at hT
    rw [if_neg (by simp)]
    have HT := Lib.hid hT
    clear hT hchk hr he hs hp hb0 hv hw0 hpi hps p36
    go_enter Tryz.func7, Tryz.ntmps7
    go_wp2_with (first | (rw [← HW0.out]; refine wpList_load_row rfl _ _ rfl w.heap.size rfl _ p (0, 0) _ HX0.out Tryz.underlying25 rfl HI.out ?_) | fail)
    refine (HT.out w0 HV0.out).mono ?_
    rintro e' w1 ⟨rfl, hb⟩
    have HBL1 := Lib.hid (HBL0.out.trans (hb.mono HBL0.out.size))
    clear hb
    unfold whyOf
    go_wp2
    go_ret2
    exact ⟨rfl, HBL1.out⟩
  · skip
    rw [hchk] at hT
    rw [if_pos rfl] at hT ⊢
    have hR := EntS.check_iff.1 hchk
    have hlen := EntX.ent_len hR hp.len
    have hsig := hR.sig
    have hbf : (EntS.text (entOf r ep ix pv e s)).length ≤ 8192 → fits [EntS.text (entOf r ep ix pv e s), bl s] = true := fun h => bytes_fits hR h
    have hbe : bytesE (entOf r ep ix pv e s) = OctetS.list [EntS.text (entOf r ep ix pv e s), bl s] := rfl
    rw [hbe]
    obtain ⟨t, ht⟩ : ∃ t, t = EntS.text (entOf r ep ix pv e s) := ⟨_, rfl⟩
    rw [← ht] at hT hlen hbf ⊢
    obtain ⟨Tb, hTb⟩ : ∃ Tb, Tb = bsOf t := ⟨_, rfl⟩
    have hTl : bl Tb = t := by rw [hTb, bl_bsOf]
    have hTs : Tb.size = t.length := by rw [hTb, size_bsOf]
    rw [← hTb] at hT
    have hL : ∀ w v, Rd w v [Tb, s] → Calls Tryz.prog 24 #[v] w (KeyA.RB (.tuple #[.string (bsOf (if t.length ≤ 8192 then (OctetS.list [t, bl s], (0 : Int)) else ([], 7)).1), .int .i64 (if t.length ≤ 8192 then (OctetS.list [t, bl s], (0 : Int)) else ([], 7)).2]) w) := fun w v hrd => by
      by_cases h8 : t.length ≤ 8192
      · rw [if_pos h8]
        have := List_ok w v [Tb, s] hrd (by simp only [List.map_cons, List.map_nil, hTl]; exact hbf h8)
        simp only [List.map_cons, List.map_nil, hTl] at this
        exact this
      · rw [if_neg h8]
        exact List_long w v Tb [s] hrd (by simp) (by omega) (by omega)
    obtain ⟨O, hO⟩ : ∃ O, O = bsOf (if t.length ≤ 8192 then (OctetS.list [t, bl s], (0 : Int)) else ([], 7)).1 := ⟨_, rfl⟩
    obtain ⟨E, hE⟩ : ∃ E, E = (if t.length ≤ 8192 then (OctetS.list [t, bl s], (0 : Int)) else ([], 7)).2 := ⟨_, rfl⟩
    rw [← hO, ← hE] at hL ⊢
    have HT := Lib.hid hT
    have HL := Lib.hid hL
    clear hL hO hE hT hTb hTl hTs ht hbf hbe hlen hsig hR hchk hr he hs hp hb0 hv hw0 hpi hps
    go_enter Tryz.func7, Tryz.ntmps7
    go_wp2_with (first | (rw [← HW0.out]; refine wpList_load_row rfl _ _ rfl w.heap.size rfl _ p (0, 0) _ HX0.out Tryz.underlying25 rfl HI.out ?_) | fail)
    refine (HT.out w0 HV0.out).mono ?_
    rintro e' w1 ⟨rfl, hb⟩
    have HBL1 := Lib.hid (HBL0.out.trans (hb.mono HBL0.out.size))
    have HX1 := Lib.hid ((hb.block _ (lt_row HX0.out)).trans HX0.out)
    clear hb
    have hc36 : w1.cell? ⟨w.heap.size, 36, none⟩ = some (.string s) := by rw [cell_row HX1.out]; exact p36
    unfold whyOf
    go_wp2_with fail
    refine (HL.out _ _ (EventB.sl_built (n := 2) (heap_new _ _) rfl (by simp [maxLen]))).mono ?_
    rintro e' w2 ⟨rfl, hb⟩
    have HBL2 := Lib.hid (HBL1.out.trans ((((Below.refl _ w1).alloc (Nat.le_refl _) _).trans (hb.mono (by simp))).mono HBL1.out.size))
    clear hb
    go_wp2
    go_ret2
    exact ⟨rfl, HBL2.out⟩

end Go.Proofs.YtooincpbmlhpbaaGreatDoor.EntY

namespace Go.Proofs.YtooincpbmlhpbaaGreatDoor.EntV
open Go Go.RowKit Go.Shelf Go.Proofs.YtooincpbmlhpbaaGreatDoor Go.Proofs.YtooincpbmlhpbaaGreatDoor.OctetS Go.Proofs.YtooincpbmlhpbaaGreatDoor.IdentS Go.Proofs.YtooincpbmlhpbaaGreatDoor.EntS Go.Proofs.YtooincpbmlhpbaaGreatDoor.OctP Go.Proofs.YtooincpbmlhpbaaGreatDoor.OctG Go.Proofs.YtooincpbmlhpbaaGreatDoor.IdentP Go.Proofs.YtooincpbmlhpbaaGreatDoor.EntP Go.Proofs.YtooincpbmlhpbaaGreatDoor.EventC Go.Proofs.YtooincpbmlhpbaaGreatDoor.EventP Go.Proofs.YtooincpbmlhpbaaGreatDoor.Steps
set_option linter.unusedVariables false
set_option linter.unusedSimpArgs false

set_option maxRecDepth 100000 in
set_option maxHeartbeats 1000000 in
theorem Verify_of (w : World) (p : Array Value) (r : ByteArray) (ep ix : Int) (pv : List UInt8) (e s : ByteArray) (hp : EntP p r ep ix pv e s) (hv : VarsI w) (hr : r.size ≤ 140737488351232) (he : e.size ≤ maxLen) (hs : s.size ≤ maxLen) (hchk : EntS.checkB (entOf r ep ix pv e s) = true)
    (v : Value) (sv res : Int) (hB : ∀ w', Below w.heap.size w w' → Calls Tryz.prog 45 #[v, .int .i64 sv, .int .i64 ix, .string (bsOf (EntS.text (entOf r ep ix pv e s))), .string s] w' (KeyA.RB (.int .i64 res) w')) :
    Calls Tryz.prog 23 #[v, .int .i64 sv, .agg p] w (KeyA.RB (.int .i64 res) w) := by
  have hT := fun w hv => Text_ok w p r ep ix pv e s hp hv hr he hs
  unfold EntS.textOf at hT
  rw [hchk] at hT
  rw [if_pos rfl] at hT
  have hR := EntS.check_iff.1 hchk
  have hi0 : 0 ≤ ix := hR.ix0
  have hi1 : ix ≤ 4096 := hR.ix1
  have hps := hp.size
  have hpi : (Tryz.prog.info? 25).map (·.size) = some 37 := by kernel_rfl
  rw [← hps] at hpi
  have HI := Lib.hid hpi
  have p2 := hp.c2
  have p36 : p[36]? = some (.string s) := by
    rw [hp.eq]
    unfold entA
    have hl : (byV pv).length = 32 := by rw [byV_length, hp.len]
    simp [hl]
  have hwr : IntKind.i64.wrap ix = ix := by rw [IntKind.wrap_i64]; omega
  obtain ⟨T, hT2⟩ : ∃ T, T = bsOf (EntS.text (entOf r ep ix pv e s)) := ⟨_, rfl⟩
  rw [← hT2] at hT hB
  obtain ⟨w0, hw0⟩ : ∃ w0, w0 = w.alloc (.cells p 25) := ⟨_, rfl⟩
  have hb0 : Below w.heap.size w w0 := by rw [hw0]; exact (Below.refl _ w).alloc (Nat.le_refl _) _
  have HX0 := Lib.hid (show w0.heap[w.heap.size]? = some (.cells p 25 (0, 0)) by rw [hw0]; exact heap_new _ _)
  have HBL0 := Lib.hid hb0
  have HW0 := Lib.hid hw0
  have HV0 := Lib.hid (hv.below hb0)
  have HT := Lib.hid hT
  have HB := Lib.hid hB
  clear hT hB hT2 hchk hR hr he hs hp hb0 hv hw0 hpi hps
  go_enter Tryz.func23, Tryz.ntmps23
  go_wp2_with (first | (rw [← HW0.out]; refine wpList_load_row rfl _ _ rfl w.heap.size rfl _ p (0, 0) _ HX0.out Tryz.underlying25 rfl HI.out ?_) | fail)
  refine (HT.out w0 HV0.out).mono ?_
  rintro e' w1 ⟨rfl, hb⟩
  have HBL1 := Lib.hid (HBL0.out.trans (hb.mono HBL0.out.size))
  have HX1 := Lib.hid ((hb.block _ (lt_row HX0.out)).trans HX0.out)
  clear hb
  have hc2 : w1.cell? ⟨w.heap.size, 2, none⟩ = some (.int .i64 ix) := by rw [cell_row HX1.out]; exact p2
  have hc36 : w1.cell? ⟨w.heap.size, 36, none⟩ = some (.string s) := by rw [cell_row HX1.out]; exact p36
  unfold whyOf
  go_wp2_with fail
  refine (HB.out w1 HBL1.out).mono ?_
  rintro e' w2 ⟨rfl, hb⟩
  have HBL2 := Lib.hid (HBL1.out.trans (hb.mono HBL1.out.size))
  clear hb
  go_wp2
  go_ret
  exact ⟨rfl, HBL2.out⟩

end Go.Proofs.YtooincpbmlhpbaaGreatDoor.EntV

namespace Go.Proofs.YtooincpbmlhpbaaGreatDoor.EntW
open Go Go.RowKit Go.Shelf Go.Proofs.YtooincpbmlhpbaaGreatDoor Go.Proofs.YtooincpbmlhpbaaGreatDoor.OctetS Go.Proofs.YtooincpbmlhpbaaGreatDoor.IdentS Go.Proofs.YtooincpbmlhpbaaGreatDoor.EntS Go.Proofs.YtooincpbmlhpbaaGreatDoor.OctP Go.Proofs.YtooincpbmlhpbaaGreatDoor.OctG Go.Proofs.YtooincpbmlhpbaaGreatDoor.IdentP Go.Proofs.YtooincpbmlhpbaaGreatDoor.EntP Go.Proofs.YtooincpbmlhpbaaGreatDoor.EventC Go.Proofs.YtooincpbmlhpbaaGreatDoor.EventP Go.Proofs.YtooincpbmlhpbaaGreatDoor.ShaA Go.Proofs.YtooincpbmlhpbaaGreatDoor.Steps Go.Proofs.YtooincpbmlhpbaaGreatDoor.KeyA Go.Proofs.YtooincpbmlhpbaaGreatDoor.KeyS Go.Proofs.YtooincpbmlhpbaaGreatDoor.KeyK Go.Proofs.YtooincpbmlhpbaaGreatDoor.TreeA
set_option linter.unusedVariables false
set_option linter.unusedSimpArgs false

theorem grownBy_setRow (w : World) (g : Nat) (cs : Array Value) : w.grownBy (w.setRow g cs) (some g) :=
  ⟨rfl, rfl, rfl, by simp [World.setRow], fun k _ hk => setRow_other w g k cs (fun e => hk (by rw [e]))⟩
theorem entA_set36 (r : ByteArray) (ep ix : Int) (pv : List UInt8) (e s t : ByteArray) (hp : pv.length = 32) : (entA r ep ix pv e s).setIfInBounds 36 (.string t) = entA r ep ix pv e t := by
  have hl : ([.string r, .int .i64 ep, .int .i64 ix] ++ byV pv ++ [.string e] : List Value).length = 36 := by simp [byV_length, hp]
  have h1 : ∀ u : ByteArray, entA r ep ix pv e u = (([.string r, .int .i64 ep, .int .i64 ix] ++ byV pv ++ [.string e]) ++ [.string u] : List Value).toArray := fun u => by unfold entA; simp
  rw [h1 s, h1 t]
  generalize ([.string r, .int .i64 ep, .int .i64 ix] ++ byV pv ++ [.string e] : List Value) = L at hl ⊢
  simp only [List.setIfInBounds_toArray]
  congr 1
  rw [← hl, List.set_append_right _ _ (Nat.le_refl _), Nat.sub_self]
  rfl

set_option maxRecDepth 100000 in
set_option maxHeartbeats 4000000 in
theorem Sign_ok (w : World) (R : Nat) (sd : ByteArray) (h nx : Nat) (v : Value) (x : H32) (hsd : sd.size ≤ 64) (hh : h ≤ 7) (hn : nx < 2 ^ h) (hr0 : w.heap[R]? = some (.cells (ringA sd h nx v x) 70 (0, 0)))
    (hv0 : Sl w v 32 (2 ^ h) ((leavesH (bl sd) (2 ^ h)).flatMap H32.cs)) (hvb : ∀ k, v.ownBlock = some k → k < w.heap.size) (hk : VarsH w)
    (p : Array Value) (r : ByteArray) (ep ix : Int) (pv : List UInt8) (e s : ByteArray) (hp : EntP p r ep ix pv e s) (hv : VarsI w) (hr : r.size ≤ 140737488351232) (he : e.size ≤ maxLen) (hs : s.size ≤ maxLen) (hchk : EntS.checkB (entOf r ep ix pv e s) = true) :
    Calls Tryz.prog 22 #[.pointer (some ⟨R, 0, none⟩), .agg p] w fun e' w' => e' = .returned (.tuple #[.agg (entA r ep ix pv e (bsOf (sigOf (bl sd) h nx (EntS.text (entOf r ep ix pv e s))))), .int .i64 0]) ∧
      w'.heap[R]? = some (.cells (ringA sd h (nx + 1 : Nat) v x) 70 (0, 0)) ∧ Ext (fun k => k = R) w w' := by
  have hT := fun w hv => Text_ok w p r ep ix pv e s hp hv hr he hs
  unfold EntS.textOf at hT
  rw [hchk] at hT
  rw [if_pos rfl] at hT
  have hR := EntS.check_iff.1 hchk
  have hlen := EntX.ent_len hR hp.len
  have hps := hp.size
  have H36 := Lib.hid hp.c36
  have hpi : (Tryz.prog.info? 25).map (·.size) = some 37 := by kernel_rfl
  obtain ⟨Tb, hT2⟩ : ∃ T, T = bsOf (EntS.text (entOf r ep ix pv e s)) := ⟨_, rfl⟩
  have hTs : Tb.size ≤ 140737488355328 := by rw [hT2, size_bsOf]; omega
  have hTb : bl Tb = EntS.text (entOf r ep ix pv e s) := by rw [hT2, bl_bsOf]
  rw [← hT2] at hT
  rw [← hTb]
  have hS := fun w' (hb : Below w.heap.size w w') => KeyM.Sign_ok w' R sd Tb h nx v x hsd hTs hh hn ((hb.block _ (lt_row hr0)).trans hr0) (hv0.below hb) (hk.below hb)
  obtain ⟨G, hG⟩ : ∃ G, G = bsOf (sigOf (bl sd) h nx (bl Tb)) := ⟨_, rfl⟩
  rw [← hG] at hS ⊢
  obtain ⟨E, hE⟩ : ∃ E, E = entA r ep ix pv e G := ⟨_, rfl⟩
  have hEp : EntP E r ep ix pv e G := ⟨hE, hp.len⟩
  have hset : p.setIfInBounds 36 (.string G) = E := by rw [hp.eq, hE, entA_set36 _ _ _ _ _ _ _ hp.len]
  have HES : Hid ((Tryz.prog.info? 25).map (·.size) = some E.size) := Lib.hid (by rw [hEp.size]; exact hpi)
  have HEN : Hid (37 = E.size) := Lib.hid hEp.size.symm
  have HEO : Hid (E.all (·.oneCell') = true) := Lib.hid (by rw [hE]; exact WireT.entA_one _ _ _ _ _ _)
  rw [← hE]
  obtain ⟨Z, hZ⟩ : ∃ Z : Array Value, Z = #[.string ⟨#[]⟩, .int .i64 0, .int .i64 0, .int .u8 0, .int .u8 0, .int .u8 0, .int .u8 0, .int .u8 0, .int .u8 0, .int .u8 0, .int .u8 0, .int .u8 0, .int .u8 0, .int .u8 0, .int .u8 0, .int .u8 0, .int .u8 0, .int .u8 0, .int .u8 0, .int .u8 0, .int .u8 0, .int .u8 0, .int .u8 0, .int .u8 0, .int .u8 0, .int .u8 0, .int .u8 0, .int .u8 0, .int .u8 0, .int .u8 0, .int .u8 0, .int .u8 0, .int .u8 0, .int .u8 0, .int .u8 0, .string ⟨#[]⟩, .string ⟨#[]⟩] := ⟨_, rfl⟩
  have HLIT : Hid ((#[.string ⟨#[]⟩, .int .i64 0, .int .i64 0, .int .u8 0, .int .u8 0, .int .u8 0, .int .u8 0, .int .u8 0, .int .u8 0, .int .u8 0, .int .u8 0, .int .u8 0, .int .u8 0, .int .u8 0, .int .u8 0, .int .u8 0, .int .u8 0, .int .u8 0, .int .u8 0, .int .u8 0, .int .u8 0, .int .u8 0, .int .u8 0, .int .u8 0, .int .u8 0, .int .u8 0, .int .u8 0, .int .u8 0, .int .u8 0, .int .u8 0, .int .u8 0, .int .u8 0, .int .u8 0, .int .u8 0, .int .u8 0, .string ⟨#[]⟩, .string ⟨#[]⟩] : Array Value) = Z) := Lib.hid hZ.symm
  have HZN : Hid (Z.size = 37) := Lib.hid (by rw [hZ]; rfl)
  have hlR := lt_row hr0
  obtain ⟨w0, hw0⟩ : ∃ w0, w0 = (w.alloc (.cells p 25)).alloc (.cells Z 25) := ⟨_, rfl⟩
  have hb0 : Below w.heap.size w w0 := by rw [hw0]; exact ((Below.refl _ w).alloc (Nat.le_refl _) _).alloc (by simp) _
  have HX0 := Lib.hid (show w0.heap[w.heap.size]? = some (.cells p 25 (0, 0)) by rw [hw0]; exact heap_at (heap_new _ _) _)
  have HZ0 := Lib.hid (show w0.heap[w.heap.size + 1]? = some (.cells Z 25 (0, 0)) by rw [hw0]; exact heap_new' _ (by simp))
  have HBL0 := Lib.hid hb0
  have HW0 := Lib.hid hw0
  have HV0 := Lib.hid (hv.below hb0)
  have HT := Lib.hid hT
  have HS := Lib.hid hS
  have HI := Lib.hid (show (Tryz.prog.info? 25).map (·.size) = some p.size by rw [hps]; exact hpi)
  have Hset := Lib.hid hset
  clear hT hS hT2 hchk hR hr he hs hp hb0 hv hw0 hpi hps hG hE hEp hset hTb hTs hlen hv0 hr0 hk hvb hZ
  go_enter Tryz.func22, Tryz.ntmps22
  go_wp2_with (first | (rw [HLIT.out, ← HW0.out]; refine wpList_load_row rfl _ _ rfl w.heap.size rfl _ p (0, 0) _ HX0.out Tryz.underlying25 rfl HI.out ?_) | fail)
  refine (HT.out w0 HV0.out).mono ?_
  rintro e' w1 ⟨rfl, hb⟩
  have HBL1 := Lib.hid (HBL0.out.trans (hb.mono HBL0.out.size))
  have HX1 := Lib.hid ((hb.block _ (lt_row HX0.out)).trans HX0.out)
  have HZ1 := Lib.hid ((hb.block _ (lt_row HZ0.out)).trans HZ0.out)
  clear hb
  unfold whyOf
  go_wp2_with fail
  refine (HS.out w1 HBL1.out).mono ?_
  rintro e' w2 ⟨rfl, hr2, hE2⟩
  have hx2 := hE2.blockOf HX1.out (fun h => by omega)
  have HX2 := Lib.hid hx2
  have HZ2 := Lib.hid (hE2.blockOf HZ1.out (fun h => by omega))
  have HR2 := Lib.hid hr2
  have HE2 := Lib.hid ((Ext.of_below (S := fun k => k = R) HBL1.out).trans hE2)
  have c36 : w2.cell? ⟨w.heap.size, 36, none⟩ = some (.string s) := by rw [cell_row hx2]; exact H36.out
  have f36 : w2.frozen? ⟨w.heap.size, 36, none⟩ = false := frozen_row hx2
  have HX3 : Hid ((w2.setCell ⟨w.heap.size, 36, none⟩ (.string G)).heap[w.heap.size]? = some (.cells E 25 (0, 0))) := Lib.hid (by rw [← Hset.out]; exact heap_setCell_same hx2 _)
  have HZ3 : Hid ((w2.setCell ⟨w.heap.size, 36, none⟩ (.string G)).heap[w.heap.size + 1]? = some (.cells Z 25 (0, 0))) := Lib.hid ((heap_setCell_far _ (by omega)).trans HZ2.out)
  have HR3 : Hid ((w2.setCell ⟨w.heap.size, 36, none⟩ (.string G)).heap[R]? = some (.cells (ringA sd h (nx + 1 : Nat) v x) 70 (0, 0))) := Lib.hid ((heap_setCell_far _ (by omega)).trans HR2.out)
  have HE3 : Hid (Ext (fun k => k = R) w (w2.setCell ⟨w.heap.size, 36, none⟩ (.string G))) := Lib.hid (HE2.out.setCell (p := ⟨w.heap.size, 36, none⟩) (.inr (Nat.le_refl _)) _)
  clear hr2 hE2 hx2
  go_wp2_with (first | (refine wpList_load_row rfl _ _ rfl w.heap.size rfl _ E (0, 0) _ HX3.out Tryz.underlying25 rfl HES.out ?_) | (refine wpList_store_rowA rfl _ _ _ rfl (w.heap.size + 1) E rfl rfl _ _ HZ3.out HES.out (by rw [HZN.out]; exact HEN.out) HEO.out ?_) | fail)
  intro wf hwf
  go_wp2
  refine bodyPost_ret (v := .tuple #[.agg E, .int .i64 0]) (WireT.results_cell_slot rfl _ _ (w.heap.size + 1) 25 E (0, 0) _ rfl (by rw [hwf.out]; exact setRow_at HZ3.out) Tryz.underlying25 rfl HES.out rfl) rfl ⟨rfl, ?_, ?_⟩
  · rw [hwf.out, setRow_far _ (by omega)]
    exact HR3.out
  · rw [hwf.out]
    exact HE3.out.grown (row := some (w.heap.size + 1)) (grownBy_setRow _ _ _) (fun k hk => by cases hk; exact .inr (by omega))

end Go.Proofs.YtooincpbmlhpbaaGreatDoor.EntW

namespace Go.Proofs.YtooincpbmlhpbaaGreatDoor.EqEnt
open Go Go.RowKit Go.Proofs.YtooincpbmlhpbaaGreatDoor Go.Proofs.YtooincpbmlhpbaaGreatDoor.ShaB Go.Proofs.YtooincpbmlhpbaaGreatDoor.EqHash Go.Proofs.YtooincpbmlhpbaaGreatDoor.EntP Go.Proofs.YtooincpbmlhpbaaGreatDoor.OctP
set_option linter.unusedVariables false
set_option linter.unusedSimpArgs false

theorem eqHashD (d : Nat) (a b : List UInt8) (w : World) : (Op.equalIn (d + 2) 23 (.agg (pB 32 a)) (.agg (pB 32 b))).run Tryz.prog w = .ok (hEq a b) w := by
  have hu : Tryz.prog.underlying 23 = some (.array 32 5) := by kernel_rfl
  have hc : Tryz.prog.cellsOf 5 = 1 := by kernel_rfl
  have hi : ∃ i, Tryz.prog.info? 5 = some i := info_of_underlying (show Tryz.prog.underlying 5 = some (.int .u8) by kernel_rfl)
  obtain ⟨i, hi⟩ := hi
  rw [show d + 2 = (d + 1) + 1 from rfl, run_equalIn_array w (d + 1) _ _ hu hi, hc]
  exact items w d a b (List.range 32) (fun i hi => by simpa using hi)
theorem pB_of {l : List UInt8} (h : l.length = 32) : (byV l).toArray = pB 32 l := by
  unfold pB
  simp [h]
theorem part_hash (w : World) (xs : Array Value) (off : Nat) : (part 23 xs off).run Tryz.prog w = .ok (.agg (xs.extract off (off + 32))) w := by
  have hu : Tryz.prog.underlying 23 = some (.array 32 5) := by kernel_rfl
  obtain ⟨i, hi⟩ := info_of_underlying (P := Tryz.prog) hu
  have hc : Tryz.prog.cellsOf 23 = 32 := by kernel_rfl
  have hs := run_sizeOf w hi
  rw [hc] at hs
  simp [part, isAgg, run_underlying hu, Sem.run_bind, hs]
theorem ext_prev (r : ByteArray) (ep ix : Int) (pv : List UInt8) (e s : ByteArray) (hp : pv.length = 32) : (entA r ep ix pv e s).extract 3 35 = pB 32 pv := by
  rw [← pB_of hp]
  unfold entA
  have h1 : (byV pv).length = 32 := by rw [byV_length, hp]
  rw [List.extract_toArray]
  congr 1
  rw [List.extract_eq_take_drop]
  simp [h1]
theorem eqF_cons {P : Program} {w : World} {d : Nat} {xs ys : Array Value} {f : Field} {fs : List Field} {x y : Value} {r s : Bool} (hn : f.name ≠ "_") (h1 : (part f.type xs f.offset).run P w = .ok x w) (h2 : (part f.type ys f.offset).run P w = .ok y w)
    (h3 : (Op.equalIn d f.type x y).run P w = .ok r w) (h4 : (Op.eqFields d xs ys fs).run P w = .ok s w) : (Op.eqFields d xs ys (f :: fs)).run P w = .ok (r && s) w := by
  unfold Op.eqFields
  rw [if_pos hn]
  simp only [Sem.run_bind, h1, h2, h3, Result.andThen_ok]
  cases r
  · simp
  · simpa using h4
theorem eqF_nil {P : Program} {w : World} {d : Nat} {xs ys : Array Value} : (Op.eqFields d xs ys []).run P w = .ok true w := by simp [Op.eqFields]
set_option maxHeartbeats 1000000 in
theorem fieldsEnt (d : Nat) (r1 r2 e1 e2 s1 s2 : ByteArray) (a1 a2 b1 b2 : Int) (p1 p2 : List UInt8) (h1 : p1.length = 32) (h2 : p2.length = 32) (w : World) :
    (Op.eqFields (d + 2) (entA r1 a1 b1 p1 e1 s1) (entA r2 a2 b2 p2 e2 s2) [⟨"Room", 9, 0, false, "", "", 0⟩, ⟨"Epoch", 3, 1, false, "", "", 16⟩, ⟨"Index", 3, 2, false, "", "", 24⟩, ⟨"Prev", 23, 3, false, "", "", 32⟩, ⟨"Event", 9, 35, false, "", "", 64⟩, ⟨"Sig", 9, 36, false, "", "", 80⟩]).run Tryz.prog w =
    .ok (r1.toList == r2.toList && (a1 == a2 && (b1 == b2 && (hEq p1 p2 && (e1.toList == e2.toList && s1.toList == s2.toList))))) w := by
  have u3 : Tryz.prog.underlying 3 = some (.int .i64) := by kernel_rfl
  have u9 : Tryz.prog.underlying 9 = some .string := by kernel_rfl
  have k3 : Tryz.prog.plainKey 3 = true := by kernel_rfl
  have k9 : Tryz.prog.plainKey 9 = true := by kernel_rfl
  have E1 : EntP (entA r1 a1 b1 p1 e1 s1) r1 a1 b1 p1 e1 s1 := ⟨rfl, h1⟩
  have E2 : EntP (entA r2 a2 b2 p2 e2 s2) r2 a2 b2 p2 e2 s2 := ⟨rfl, h2⟩
  have x1 := ext_prev r1 a1 b1 p1 e1 s1 h1
  have x2 := ext_prev r2 a2 b2 p2 e2 s2 h2
  obtain ⟨A, hA⟩ : ∃ A, A = entA r1 a1 b1 p1 e1 s1 := ⟨_, rfl⟩
  obtain ⟨B, hB⟩ : ∃ B, B = entA r2 a2 b2 p2 e2 s2 := ⟨_, rfl⟩
  rw [← hA] at E1 x1 ⊢
  rw [← hB] at E2 x2 ⊢
  have q0 := run_part_plain w k9 (off := 0) E1.c0
  have q0' := run_part_plain w k9 (off := 0) E2.c0
  have q1 := run_part_plain w k3 (off := 1) E1.c1
  have q1' := run_part_plain w k3 (off := 1) E2.c1
  have q2 := run_part_plain w k3 (off := 2) E1.c2
  have q2' := run_part_plain w k3 (off := 2) E2.c2
  have q3 := part_hash w A 3
  have q3' := part_hash w B 3
  have q4 := run_part_plain w k9 (off := 35) E1.c35
  have q4' := run_part_plain w k9 (off := 35) E2.c35
  have q5 := run_part_plain w k9 (off := 36) E1.c36
  have q5' := run_part_plain w k9 (off := 36) E2.c36
  rw [x1] at q3
  rw [x2] at q3'
  have z0 := run_equalIn_string (P := Tryz.prog) w (d + 1) 9 r1 r2 u9
  have z1 := run_equalIn_int (P := Tryz.prog) w (d + 1) 3 .i64 .i64 a1 a2 u3
  have z2 := run_equalIn_int (P := Tryz.prog) w (d + 1) 3 .i64 .i64 b1 b2 u3
  have z3 := eqHashD d p1 p2 w
  have z4 := run_equalIn_string (P := Tryz.prog) w (d + 1) 9 e1 e2 u9
  have z5 := run_equalIn_string (P := Tryz.prog) w (d + 1) 9 s1 s2 u9
  have h := eqF_cons (f := ⟨"Room", 9, 0, false, "", "", 0⟩) (by decide) q0 q0' z0 (eqF_cons (f := ⟨"Epoch", 3, 1, false, "", "", 16⟩) (by decide) q1 q1' z1 (eqF_cons (f := ⟨"Index", 3, 2, false, "", "", 24⟩) (by decide) q2 q2' z2
    (eqF_cons (f := ⟨"Prev", 23, 3, false, "", "", 32⟩) (by decide) q3 q3' z3 (eqF_cons (f := ⟨"Event", 9, 35, false, "", "", 64⟩) (by decide) q4 q4' z4 (eqF_cons (f := ⟨"Sig", 9, 36, false, "", "", 80⟩) (by decide) q5 q5' z5 eqF_nil)))))
  rw [Bool.and_true] at h
  exact h
theorem eqEnt (r1 r2 e1 e2 s1 s2 : ByteArray) (a1 a2 b1 b2 : Int) (p1 p2 : List UInt8) (h1 : p1.length = 32) (h2 : p2.length = 32) (w : World) : (Op.equalIn 10000 25 (.agg (entA r1 a1 b1 p1 e1 s1)) (.agg (entA r2 a2 b2 p2 e2 s2))).run Tryz.prog w =
    .ok (r1.toList == r2.toList && (a1 == a2 && (b1 == b2 && (hEq p1 p2 && (e1.toList == e2.toList && s1.toList == s2.toList))))) w := by
  have hS : Tryz.prog.underlying 25 = some (.struct (Tryz.prog.fieldsOf 25)) := by kernel_rfl
  have hF : (Tryz.prog.fieldsOf 25).toList = [⟨"Room", 9, 0, false, "", "", 0⟩, ⟨"Epoch", 3, 1, false, "", "", 16⟩, ⟨"Index", 3, 2, false, "", "", 24⟩, ⟨"Prev", 23, 3, false, "", "", 32⟩, ⟨"Event", 9, 35, false, "", "", 64⟩, ⟨"Sig", 9, 36, false, "", "", 80⟩] := by kernel_rfl
  have hp : Tryz.prog.stoodInHeld 25 = false := by kernel_rfl
  have h := fieldsEnt 9997 r1 r2 e1 e2 s1 s2 a1 a2 b1 b2 p1 p2 h1 h2 w
  rw [← hF] at h
  rw [show (10000 : Nat) = 9999 + 1 from rfl, run_equalIn_agg w 9999 25 _ _ hS hp]
  exact h
theorem guardEnt : Go.Program.eqGuardType Tryz.prog Tryz.prog.depth 25 = false := by kernel_rfl
end Go.Proofs.YtooincpbmlhpbaaGreatDoor.EqEnt

namespace Go.Proofs.YtooincpbmlhpbaaGreatDoor.EntK
open Go.Proofs.YtooincpbmlhpbaaGreatDoor.OctetS Go.Proofs.YtooincpbmlhpbaaGreatDoor.IdentS Go.Proofs.YtooincpbmlhpbaaGreatDoor.EntS Go.Proofs.YtooincpbmlhpbaaGreatDoor.EntB Go.Proofs.YtooincpbmlhpbaaGreatDoor.KeyS Go.Proofs.YtooincpbmlhpbaaGreatDoor.KeyN Go.Proofs.YtooincpbmlhpbaaGreatDoor.NSha
set_option linter.unusedVariables false
set_option maxRecDepth 100000

def z32 : List UInt8 := List.replicate 32 0
theorem z32_len : z32.length = 32 := rfl
def rm : List UInt8 := [33, 104, 97, 108, 108, 58, 48]
def ent (ix : Nat) (s : List UInt8) : Ent := ⟨rm, 1, (ix : Int), z32, [120], s⟩
def T5 : List UInt8 := [6, 5, 101, 110, 116, 114, 121, 7, 33, 104, 97, 108, 108, 58, 48, 1, 1, 1, 5, 32, 0, 0, 0, 0, 0, 0, 0, 0, 0, 0, 0, 0, 0, 0, 0, 0, 0, 0, 0, 0, 0, 0, 0, 0, 0, 0, 0, 0, 0, 0, 0, 0, 1, 120]
def T6 : List UInt8 := [6, 5, 101, 110, 116, 114, 121, 7, 33, 104, 97, 108, 108, 58, 48, 1, 1, 1, 6, 32, 0, 0, 0, 0, 0, 0, 0, 0, 0, 0, 0, 0, 0, 0, 0, 0, 0, 0, 0, 0, 0, 0, 0, 0, 0, 0, 0, 0, 0, 0, 0, 0, 1, 120]
def G : List UInt8 := sigOf [115] 1 0 T5
theorem G_len : G.length = 1121 := by
  unfold G
  rw [sigOf_length (by decide)]
theorem G_head : (G.headD 0).toNat = 0 := by
  unfold G
  exact sigOf_head (by decide) (by decide) _ _
theorem room0 : roomB rm = true := by decide +kernel
theorem right {ix : Nat} (hi : ix ≤ 4096) {s : List UInt8} (hs : s.length ≤ 8192) : Right (ent ix s) := ⟨room0, by show (0 : Int) ≤ 1; omega, by show (1 : Int) ≤ 4096; omega, by show (0 : Int) ≤ ix; omega, by show (ix : Int) ≤ 4096; omega, by show 1 ≤ 8192; omega, hs⟩
theorem lt5 : OctetS.list [EntS.mark, rm, num 1, num 5, z32, [120]] = T5 := by decide +kernel
theorem lt6 : OctetS.list [EntS.mark, rm, num 1, num 6, z32, [120]] = T6 := by decide +kernel
theorem text5 (s : List UInt8) : EntS.text (ent 5 s) = T5 := by
  rw [← lt5]
  rfl
theorem text6 (s : List UInt8) : EntS.text (ent 6 s) = T6 := by
  rw [← lt6]
  rfl
theorem T5_len : T5.length ≤ 8192 := by decide +kernel
theorem check5 {s : List UInt8} (hs : s.length ≤ 8192) : checkB (ent 5 s) = true := check_iff.2 (right (by omega) hs)
theorem check6 {s : List UInt8} (hs : s.length ≤ 8192) : checkB (ent 6 s) = true := check_iff.2 (right (by omega) hs)
theorem check0 : checkB ⟨[], 0, 0, z32, [], []⟩ = false := by decide +kernel
theorem read5 : WireS.read T5 = some (ent 5 []) := by
  have h := read_text (right (ix := 5) (by omega) (s := []) (by simp)) z32_len
  rw [text5] at h
  exact h
theorem bytes5 : bytesE (ent 5 G) = OctetS.list [T5, G] := by
  unfold bytesE
  rw [text5]
  rfl
theorem parse5 : WireS.parse (OctetS.list [T5, G]) = some (ent 5 G) := by
  have h := parse_bytes (right (ix := 5) (by omega) (s := G) (by rw [G_len]; omega)) z32_len (by rw [text5]; exact T5_len)
  rw [bytes5] at h
  exact h
theorem fits5 : fits [T5, G] = true := by
  have h := bytes_fits (right (ix := 5) (by omega) (s := G) (by rw [G_len]; omega)) (by rw [text5]; exact T5_len)
  rw [text5] at h
  exact h
theorem parse_more {l : List (List UInt8)} (h : fits l = true) (x : UInt8) : WireS.parse (OctetS.list l ++ [x]) = none := by
  have h1 := getList_list h [x]
  have h2 : (all (OctetS.list l ++ [x])).2 = 6 := by
    unfold all
    rw [h1]
    simp
  unfold WireS.parse
  rw [h2]
  simp
theorem climb5 : climbOf 1 T5 G = rootOf [115] 1 := by
  have h := verify_sig (h := 1) (i := 0) (by decide) (by decide) [115] T5
  unfold verify at h
  by_cases hb : sigB 1 (sigOf [115] 1 0 T5) = true
  · rw [if_pos hb] at h
    by_cases hc : climbOf 1 T5 (sigOf [115] 1 0 T5) = rootOf [115] 1
    · exact hc
    · rw [if_neg hc] at h
      cases h
  · rw [if_neg hb] at h
    cases h
theorem climb6 : climbOf 1 T6 G ≠ rootOf [115] 1 := other_no (t := [6, 5, 101, 110, 116, 114, 121, 7, 33, 104, 97, 108, 108, 58, 48, 1, 1, 1, 5, 32, 0, 0, 0, 0, 0, 0, 0, 0, 0, 0, 0, 0, 0, 0, 0, 0, 0, 0, 0, 0, 0, 0, 0, 0, 0, 0, 0, 0, 0, 0, 0, 0, 1, 120]) (o := [6, 5, 101, 110, 116, 114, 121, 7, 33, 104, 97, 108, 108, 58, 48, 1, 1, 1, 6, 32, 0, 0, 0, 0, 0, 0, 0, 0, 0, 0, 0, 0, 0, 0, 0, 0, 0, 0, 0, 0, 0, 0, 0, 0, 0, 0, 0, 0, 0, 0, 0, 0, 1, 120]) (r := [242, 124, 105, 156, 171, 149, 251, 141, 237, 14, 184, 168, 224, 205, 36, 153, 117, 124, 137, 154, 46, 165, 71, 57, 154, 109, 77, 238, 72, 219, 231, 65]) (b := [7, 40, 155, 86, 173, 193, 102, 95, 90, 175, 50, 109, 158, 101, 38, 185, 236, 96, 157, 32, 168, 40, 43, 186, 18, 179, 78, 212, 101, 177, 36, 201]) (by decide +kernel) (by decide +kernel) (by decide +kernel) (by decide +kernel) (by decide)

end Go.Proofs.YtooincpbmlhpbaaGreatDoor.EntK

namespace Go.Proofs.YtooincpbmlhpbaaGreatDoor.EntL
open Go Go.RowKit Go.Shelf Go.Proofs.YtooincpbmlhpbaaGreatDoor Go.Proofs.YtooincpbmlhpbaaGreatDoor.OctetS Go.Proofs.YtooincpbmlhpbaaGreatDoor.IdentS Go.Proofs.YtooincpbmlhpbaaGreatDoor.EntS Go.Proofs.YtooincpbmlhpbaaGreatDoor.OctG Go.Proofs.YtooincpbmlhpbaaGreatDoor.IdentP Go.Proofs.YtooincpbmlhpbaaGreatDoor.EntP Go.Proofs.YtooincpbmlhpbaaGreatDoor.EventC Go.Proofs.YtooincpbmlhpbaaGreatDoor.ShaA Go.Proofs.YtooincpbmlhpbaaGreatDoor.Steps Go.Proofs.YtooincpbmlhpbaaGreatDoor.KeyA Go.Proofs.YtooincpbmlhpbaaGreatDoor.KeyS Go.Proofs.YtooincpbmlhpbaaGreatDoor.KeyI Go.Proofs.YtooincpbmlhpbaaGreatDoor.KeyK Go.Proofs.YtooincpbmlhpbaaGreatDoor.TreeA Go.Proofs.YtooincpbmlhpbaaGreatDoor.EntK Go.Proofs.YtooincpbmlhpbaaGreatDoor.EntB Go.Proofs.YtooincpbmlhpbaaGreatDoor.BookA
set_option linter.unusedVariables false
set_option linter.unusedSimpArgs false

def rB : ByteArray := bsOf rm
def xB : ByteArray := bsOf [120]
def nB : ByteArray := bsOf []
def gB : ByteArray := bsOf G
def sS : ByteArray := ⟨#[115]⟩
theorem sS_bl : bl sS = [115] := rfl
theorem rB_z : rB.size ≤ 140737488351232 := by decide +kernel
theorem xB_z : xB.size ≤ maxLen := by decide +kernel
theorem nB_z : nB.size ≤ maxLen := by decide +kernel
theorem gB_size : gB.size = 1121 := by
  unfold gB
  rw [size_bsOf, G_len]
theorem gB_z : gB.size ≤ maxLen := by
  rw [gB_size]
  unfold maxLen
  omega
theorem of_ent (ix : Nat) (s : List UInt8) : entOf rB 1 (ix : Int) z32 xB (bsOf s) = ent ix s := by
  unfold entOf rB xB ent
  rw [bl_bsOf, bl_bsOf, bl_bsOf]
theorem nB_of : nB = bsOf [] := rfl
def eA (ix : Nat) (s : ByteArray) : Array Value := entA rB 1 (ix : Int) z32 xB s
theorem eP (ix : Nat) (s : ByteArray) : EntP (eA ix s) rB 1 (ix : Int) z32 xB s := ⟨rfl, z32_len⟩
theorem G_le : G.length ≤ 8192 := by
  rw [G_len]
  omega
theorem check_n : EntS.checkB (entOf rB 1 ((5 : Nat) : Int) z32 xB nB) = true := by
  rw [nB_of, of_ent]
  exact check5 (by simp)
theorem check_5 : EntS.checkB (entOf rB 1 ((5 : Nat) : Int) z32 xB gB) = true := by
  unfold gB
  rw [of_ent]
  exact check5 G_le
theorem check_6 : EntS.checkB (entOf rB 1 ((6 : Nat) : Int) z32 xB gB) = true := by
  unfold gB
  rw [of_ent]
  exact check6 G_le
theorem text_n : EntS.text (entOf rB 1 ((5 : Nat) : Int) z32 xB nB) = T5 := by
  rw [nB_of, of_ent]
  exact text5 _
theorem text_5 : EntS.text (entOf rB 1 ((5 : Nat) : Int) z32 xB gB) = T5 := by
  unfold gB
  rw [of_ent]
  exact text5 _
theorem text_6 : EntS.text (entOf rB 1 ((6 : Nat) : Int) z32 xB gB) = T6 := by
  unfold gB
  rw [of_ent]
  exact text6 _
def sB : ByteArray := bsOf (OctetS.list [T5, G])
def tB : ByteArray := bsOf T5
theorem list_len2 : (OctetS.list [T5, G]).length ≤ 20000 := by
  have h := EntX.flat_len [T5, G] (fun t ht => by
    simp only [List.mem_cons, List.not_mem_nil, or_false] at ht
    rcases ht with rfl | rfl
    · exact T5_len
    · exact G_le)
  have h5 := OctetS.num_length2 (n := 2) (by omega)
  have h2 : ([T5, G].flatMap OctetS.text).length ≤ 8194 * 2 := h
  show (OctetS.num 2 ++ [T5, G].flatMap OctetS.text).length ≤ 20000
  rw [List.length_append]
  omega
theorem sB_size : sB.size ≤ 20000 := by
  unfold sB
  rw [size_bsOf]
  exact list_len2

theorem Make_s (w : World) (hk : VarsH w) : Calls Tryz.prog 20 #[.agg #[.string ⟨#[115]⟩, .int .i64 1, .int .i64 0]] w fun e w' => ∃ R v, e = .returned (.tuple #[.pointer (some ⟨R, 0, none⟩), .int .i64 0]) ∧ RingAt w w' R sS 1 0 v ∧ Below w.heap.size w w' :=
  Make_yes w sS 1 0 (by decide) (by decide) (by decide) (by decide) hk
theorem Root_s (w : World) (hk : VarsH w) : Calls Tryz.prog 21 #[.agg #[.string ⟨#[115]⟩, .int .i64 1, .int .i64 0]] w (RB (.tuple #[.agg (rootK [115] 1).A, .int .i64 0]) w) :=
  KeyL.Root_yes w sS 1 0 (by decide) (by decide) (by decide) (by decide) hk
theorem Sign_s (w0 w : World) (R : Nat) (v : Value) (h : RingAt w0 w R sS 1 0 v) (hk : VarsH w) (hv : VarsI w) :
    Calls Tryz.prog 22 #[.pointer (some ⟨R, 0, none⟩), .agg (eA 5 nB)] w fun e' w' => e' = .returned (.tuple #[.agg (eA 5 gB), .int .i64 0]) ∧ Ext (fun k => k = R) w w' := by
  have h1 := EntW.Sign_ok w R sS 1 0 v _ (by decide) (by decide) (by decide) h.row h.lv.sl (fun k hk => (h.lv.lt k hk).2) hk (eA 5 nB) rB 1 ((5 : Nat) : Int) z32 xB nB (eP 5 nB) hv rB_z xB_z nB_z check_n
  rw [text_n, sS_bl] at h1
  refine h1.mono ?_
  rintro e w' ⟨rfl, _, hE⟩
  exact ⟨rfl, hE⟩
theorem Bytes_s (w : World) (hv : VarsI w) : Calls Tryz.prog 7 #[.agg (eA 5 gB)] w (RB (.tuple #[.string sB, .int .i64 0]) w) := by
  have h := EntY.Bytes_ok w (eA 5 gB) rB 1 ((5 : Nat) : Int) z32 xB gB (eP 5 gB) hv rB_z xB_z gB_z
  have hb : EntB.bytesW (entOf rB 1 ((5 : Nat) : Int) z32 xB gB) = (OctetS.list [T5, G], 0) := by
    rw [EntY.bytesW_ok, check_5, if_pos rfl, text_5, if_pos T5_len]
    unfold gB
    rw [of_ent, bytes5]
  rw [hb] at h
  exact h
theorem Parse_s (w : World) (hv : VarsI w) : Calls Tryz.prog 8 #[.string sB] w (RB (.tuple #[.agg (eA 5 gB), .int .i64 0]) w) := by
  have h := WireB.Parse_ok w sB (by have := sB_size; omega) hv
  have hp : WireS.parse (bl sB) = some (ent 5 G) := by
    unfold sB
    rw [bl_bsOf]
    exact parse5
  rw [hp] at h
  exact h
theorem Text_s (w : World) (hv : VarsI w) : Calls Tryz.prog 9 #[.agg (eA 5 gB)] w (RB (.tuple #[.string tB, .int .i64 0]) w) := by
  have h := Text_ok w (eA 5 gB) rB 1 ((5 : Nat) : Int) z32 xB gB (eP 5 gB) hv rB_z xB_z gB_z
  unfold EntS.textOf at h
  rw [check_5, if_pos rfl, text_5] at h
  exact h
theorem Read_s (w : World) (hv : VarsI w) : Calls Tryz.prog 15 #[.string tB] w (RB (.tuple #[.agg (eA 5 nB), .int .i64 0]) w) := by
  have h := WireB.Read_ok w tB (by unfold tB; rw [size_bsOf]; have := T5_len; omega) hv
  have hp : WireS.read (bl tB) = some (ent 5 []) := by
    unfold tB
    rw [bl_bsOf]
    exact read5
  rw [hp] at h
  exact h
theorem bl_snoc (s : ByteArray) : bl (s ++ ⟨#[33]⟩) = bl s ++ [33] := by simp [bl]
theorem size_snoc (s : ByteArray) : (s ++ ⟨#[33]⟩ : ByteArray).size = s.size + 1 := by
  rw [ByteArray.size_append]
  rfl
theorem small_snoc (s : ByteArray) (h : s.size ≤ 20000) : (s ++ ⟨#[33]⟩ : ByteArray).size ≤ 140737488351232 := by
  rw [size_snoc]
  omega
theorem parse_snoc (w : World) (s : ByteArray) (l : List (List UInt8)) (hf : fits l = true) (hl : bl s = OctetS.list l) (hz : s.size ≤ 20000) (hv : VarsI w) : Calls Tryz.prog 8 #[.string (s ++ ⟨#[33]⟩)] w (RB (.tuple #[.agg WireT.entZ, .int .i64 6]) w) := by
  have h := WireB.Parse_ok w _ (small_snoc s hz) hv
  rw [bl_snoc, hl, parse_more hf] at h
  exact h
theorem Parse_more (w : World) (hv : VarsI w) : Calls Tryz.prog 8 #[.string (sB ++ ⟨#[33]⟩)] w (RB (.tuple #[.agg WireT.entZ, .int .i64 6]) w) :=
  parse_snoc w sB _ fits5 (by unfold sB; rw [bl_bsOf]) sB_size hv
theorem Check_s (w : World) (hv : VarsI w) : Calls Tryz.prog 17 #[.agg WireT.entZ] w (RB (.int .i64 2) w) := by
  have h := Check_ok w WireT.entZ ⟨#[]⟩ 0 0 WireT.zero32 ⟨#[]⟩ ⟨#[]⟩ ⟨rfl, rfl⟩ hv (by decide) (by decide +kernel) (by decide +kernel)
  have hc : EntS.checkB (entOf ⟨#[]⟩ 0 0 WireT.zero32 ⟨#[]⟩ ⟨#[]⟩) = false := by decide +kernel
  rw [hc] at h
  exact h

/-- The grant. -/
def gr : Gr' := ⟨2, 0, 9, 1, rootK [115] 1⟩
theorem gr_right : gr.Right := ⟨by decide, by decide, by decide, by decide, by decide, by decide, by decide⟩
theorem found_yes (ix : Int) (h0 : 0 ≤ ix) (h9 : ix ≤ 9) : foundB gr 2 ix = true := by
  unfold foundB gr
  simp [h0, h9]
theorem found_no (ix : Int) : foundB gr 1 ix = false := by
  unfold foundB gr
  simp
theorem Verify_5 (w : World) (v : Value) (hk : VarsH w) (hv : VarsI w) (hg : Sl w v 36 1 ([gr].flatMap Gr'.cs)) : Calls Tryz.prog 23 #[v, .int .i64 2, .agg (eA 5 gB)] w (RB (.int .i64 0) w) := by
  refine EntV.Verify_of w (eA 5 gB) rB 1 ((5 : Nat) : Int) z32 xB gB (eP 5 gB) hv rB_z xB_z gB_z check_5 v 2 0 (fun w' hb => ?_)
  rw [text_5]
  have h := BookE.Verify_yes w' v gr 2 ((5 : Nat) : Int) (bsOf T5) gB 1 gr_right rfl (hg.below hb) (found_yes _ (by decide) (by decide)) (by rw [size_bsOf]; have := T5_len; omega) gB_size (by unfold gB; rw [bl_bsOf, G_head]; decide) (hk.below hb)
  have hc : climbOf 1 (bl (bsOf T5)) (bl gB) = gr.rt.l := by
    unfold gB
    rw [bl_bsOf, bl_bsOf, climb5]
    exact (rootK_l _ _).symm
  rw [if_pos hc] at h
  exact h
theorem Verify_6 (w : World) (v : Value) (hk : VarsH w) (hv : VarsI w) (hg : Sl w v 36 1 ([gr].flatMap Gr'.cs)) : Calls Tryz.prog 23 #[v, .int .i64 2, .agg (eA 6 gB)] w (RB (.int .i64 9) w) := by
  refine EntV.Verify_of w (eA 6 gB) rB 1 ((6 : Nat) : Int) z32 xB gB (eP 6 gB) hv rB_z xB_z gB_z check_6 v 2 9 (fun w' hb => ?_)
  rw [text_6]
  have h := BookE.Verify_yes w' v gr 2 ((6 : Nat) : Int) (bsOf T6) gB 1 gr_right rfl (hg.below hb) (found_yes _ (by decide) (by decide)) (by rw [size_bsOf]; decide +kernel) gB_size (by unfold gB; rw [bl_bsOf, G_head]; decide) (hk.below hb)
  have hc : ¬ climbOf 1 (bl (bsOf T6)) (bl gB) = gr.rt.l := by
    unfold gB
    rw [bl_bsOf, bl_bsOf, show gr.rt.l = rootOf [115] 1 from rootK_l _ _]
    exact climb6
  rw [if_neg hc] at h
  exact h
theorem Verify_1 (w : World) (v : Value) (hk : VarsH w) (hv : VarsI w) (hg : Sl w v 36 1 ([gr].flatMap Gr'.cs)) : Calls Tryz.prog 23 #[v, .int .i64 1, .agg (eA 6 gB)] w (RB (.int .i64 3) w) := by
  refine EntV.Verify_of w (eA 6 gB) rB 1 ((6 : Nat) : Int) z32 xB gB (eP 6 gB) hv rB_z xB_z gB_z check_6 v 1 3 (fun w' hb => ?_)
  exact BookE.Verify_none w' v gr 1 _ _ gB gr_right (hg.below hb) (found_no _)
theorem eq_self (w : World) : (Op.equalIn 10000 25 (.agg (eA 5 nB)) (.agg (eA 5 nB))).run Tryz.prog w = .ok true w := by
  unfold eA
  rw [EqEnt.eqEnt _ _ _ _ _ _ _ _ _ _ _ _ z32_len z32_len, EqHash.hEq_self]
  simp
/-- The root's cells. -/
theorem byV_bN (l : List UInt8) : byV l = (NSha.bN l).map fun n => .int .u8 (n : Int) := by
  unfold byV NSha.bN
  rw [List.map_map]
  rfl
def rootL : Array Value := ([1, 182, 6, 211, 135, 147, 53, 5, 245, 241, 205, 252, 197, 223, 231, 32, 130, 117, 182, 46, 173, 16, 191, 101, 209, 159, 7, 102, 245, 140, 192, 251].map fun n : Nat => Value.int .u8 (n : Int)).toArray
theorem root_A : (rootK [115] 1).A = rootL := by
  unfold H32.A rootL
  rw [rootK_l, byV_bN, KeyN.root_s]

end Go.Proofs.YtooincpbmlhpbaaGreatDoor.EntL

namespace Go.Proofs.YtooincpbmlhpbaaGreatDoor.EntQ
open Go Go.RowKit Go.Shelf Go.Proofs.YtooincpbmlhpbaaGreatDoor Go.Proofs.YtooincpbmlhpbaaGreatDoor.OctetS Go.Proofs.YtooincpbmlhpbaaGreatDoor.IdentS Go.Proofs.YtooincpbmlhpbaaGreatDoor.EntS Go.Proofs.YtooincpbmlhpbaaGreatDoor.OctG Go.Proofs.YtooincpbmlhpbaaGreatDoor.IdentP Go.Proofs.YtooincpbmlhpbaaGreatDoor.EntP Go.Proofs.YtooincpbmlhpbaaGreatDoor.EventC Go.Proofs.YtooincpbmlhpbaaGreatDoor.ShaA Go.Proofs.YtooincpbmlhpbaaGreatDoor.Steps Go.Proofs.YtooincpbmlhpbaaGreatDoor.KeyA Go.Proofs.YtooincpbmlhpbaaGreatDoor.KeyS Go.Proofs.YtooincpbmlhpbaaGreatDoor.KeyI Go.Proofs.YtooincpbmlhpbaaGreatDoor.KeyK Go.Proofs.YtooincpbmlhpbaaGreatDoor.TreeA Go.Proofs.YtooincpbmlhpbaaGreatDoor.EntK Go.Proofs.YtooincpbmlhpbaaGreatDoor.EntB Go.Proofs.YtooincpbmlhpbaaGreatDoor.BookA Go.Proofs.YtooincpbmlhpbaaGreatDoor.EntL Go.Proofs.YtooincpbmlhpbaaGreatDoor.KeyG
set_option linter.unusedVariables false
set_option linter.unusedSimpArgs false
attribute [-go_sem] run_equalIn_agg

theorem wpList_buildC {P : Program} {ops : Array Oper} {rest : List Oper} {o : Oper} {a : Act} {w : World} {Q : Exit → Act → World → Prop} (hg : o.guard = none) (t : TypeId) (parts : Array (Nat × Operand)) (ho : o.op = .build t parts) (cells : Array Value)
    (hb : P.built t (parts.map fun (i, x) => (i, a.eval x)).toList = some cells) (h : wpList P ops Q rest (a.put o.dst (.agg cells)) w) : wpList P ops Q (o :: rest) a w :=
  wpList_build hg t parts ho (by rw [hb]; rfl) (by rw [hb]; exact h)
theorem fold_any (Z C : Array Value) (n : Nat) (hZ : Z.size = n) (hC : C.size = n) : Array.foldl (fun (cs : Array Value) x => cs.setIfInBounds x.snd x.fst) Z C.zipIdx 0 n = C := by
  have h1 : C.zipIdx.size = n := by simp [hC]
  rw [← h1, ← Array.foldl_toList, Array.toList_zipIdx, fold_set C.toList 0 _ (by simp [hC, hZ])]
  simp
theorem sl_one {w : World} {b n : Nat} {cs : Array Value} {t : TypeId} {fr : Nat × Nat} (h : w.heap[b]? = some (.cells cs t fr)) (hn : cs.size = n) : Sl w (.slice (some ⟨b, 0, none⟩) 1 1) n 1 cs.toList :=
  ⟨by rw [Array.length_toList, hn, Nat.one_mul], .inr ⟨⟨b, 0, none⟩, 1, rfl, Nat.le_refl _, by unfold maxLen; omega, fun j u hu => by
    rw [Addr.add_mid, Nat.zero_add, cell_row h, ← hu]
    simp⟩⟩
theorem ring_below {w0 w w' : World} {R : Nat} {s : ByteArray} {h nx : Nat} {v : Value} (hr : RingAt w0 w R s h nx v) (hb : Below w.heap.size w w') : RingAt w0 w' R s h nx v :=
  ⟨(hb.block _ (lt_row hr.row)).trans hr.row, hr.lv.ext (Ext.ofB hb) (fun _ _ h => h), hr.ge, hr.sep⟩

set_option maxRecDepth 100000 in
set_option maxHeartbeats 4000000 in
theorem lives_ok (w : World) (hv : VarsI w) (hk : VarsH w) : Calls Tryz.prog 6 #[] w (RB (.bool true) w) := by
  obtain ⟨E0, hE0⟩ : ∃ E, E = eA 5 nB := ⟨_, rfl⟩
  have hE0n : E0.size = 37 := by rw [hE0]; exact WireT.entA_size z32_len
  have HE0S : Hid ((Tryz.prog.info? 25).map (·.size) = some E0.size) := Lib.hid (by rw [hE0n]; kernel_rfl)
  have HE0N : Hid (37 = E0.size) := Lib.hid hE0n.symm
  have HE0O : Hid (E0.all (·.oneCell') = true) := Lib.hid (by rw [hE0]; exact WireT.entA_one _ _ _ _ _ _)
  obtain ⟨EF, hEF⟩ : ∃ E, E = eA 5 gB := ⟨_, rfl⟩
  have hEFn : EF.size = 37 := by rw [hEF]; exact WireT.entA_size z32_len
  have HEFS : Hid ((Tryz.prog.info? 25).map (·.size) = some EF.size) := Lib.hid (by rw [hEFn]; kernel_rfl)
  have HEFN : Hid (37 = EF.size) := Lib.hid hEFn.symm
  have HEFO : Hid (EF.all (·.oneCell') = true) := Lib.hid (by rw [hEF]; exact WireT.entA_one _ _ _ _ _ _)
  obtain ⟨E6, hE6⟩ : ∃ E, E = eA 6 gB := ⟨_, rfl⟩
  have hE6n : E6.size = 37 := by rw [hE6]; exact WireT.entA_size z32_len
  have HE6S : Hid ((Tryz.prog.info? 25).map (·.size) = some E6.size) := Lib.hid (by rw [hE6n]; kernel_rfl)
  have HE6N : Hid (37 = E6.size) := Lib.hid hE6n.symm
  have HE6O : Hid (E6.all (·.oneCell') = true) := Lib.hid (by rw [hE6]; exact WireT.entA_one _ _ _ _ _ _)
  obtain ⟨EZ, hEZ⟩ : ∃ E, E = WireT.entZ := ⟨_, rfl⟩
  have hEZn : EZ.size = 37 := by rw [hEZ]; rfl
  have HEZS : Hid ((Tryz.prog.info? 25).map (·.size) = some EZ.size) := Lib.hid (by rw [hEZn]; kernel_rfl)
  have HEZN : Hid (37 = EZ.size) := Lib.hid hEZn.symm
  have HEZO : Hid (EZ.all (·.oneCell') = true) := Lib.hid (by rw [hEZ]; exact WireT.entA_one _ _ _ _ _ _)
  obtain ⟨C, hC⟩ : ∃ E, E = (rootK [115] 1).A := ⟨_, rfl⟩
  have hCn : C.size = 32 := by rw [hC]; exact H32.size _
  have HCS : Hid ((Tryz.prog.info? 23).map (·.size) = some C.size) := Lib.hid (by rw [hCn]; kernel_rfl)
  have HCN : Hid (32 = C.size) := Lib.hid hCn.symm
  have HCO : Hid (C.all (·.oneCell') = true) := Lib.hid (by rw [hC]; exact H32.one _)
  have hE0L : (#[.string ⟨#[33, 104, 97, 108, 108, 58, 48]⟩, .int .i64 1, .int .i64 5, .int .u8 0, .int .u8 0, .int .u8 0, .int .u8 0, .int .u8 0, .int .u8 0, .int .u8 0, .int .u8 0, .int .u8 0, .int .u8 0, .int .u8 0, .int .u8 0, .int .u8 0, .int .u8 0, .int .u8 0, .int .u8 0, .int .u8 0, .int .u8 0, .int .u8 0, .int .u8 0, .int .u8 0, .int .u8 0, .int .u8 0, .int .u8 0, .int .u8 0, .int .u8 0, .int .u8 0, .int .u8 0, .int .u8 0, .int .u8 0, .int .u8 0, .int .u8 0, .string ⟨#[120]⟩, .string ⟨#[]⟩] : Array Value) = E0 := by rw [hE0]; kernel_rfl
  have hEZL : (#[.string ⟨#[]⟩, .int .i64 0, .int .i64 0, .int .u8 0, .int .u8 0, .int .u8 0, .int .u8 0, .int .u8 0, .int .u8 0, .int .u8 0, .int .u8 0, .int .u8 0, .int .u8 0, .int .u8 0, .int .u8 0, .int .u8 0, .int .u8 0, .int .u8 0, .int .u8 0, .int .u8 0, .int .u8 0, .int .u8 0, .int .u8 0, .int .u8 0, .int .u8 0, .int .u8 0, .int .u8 0, .int .u8 0, .int .u8 0, .int .u8 0, .int .u8 0, .int .u8 0, .int .u8 0, .int .u8 0, .int .u8 0, .string ⟨#[]⟩, .string ⟨#[]⟩] : Array Value) = EZ := by rw [hEZ]; kernel_rfl
  have hE6L : (#[.string ⟨#[33, 104, 97, 108, 108, 58, 48]⟩, .int .i64 1, .int .i64 6, .int .u8 0, .int .u8 0, .int .u8 0, .int .u8 0, .int .u8 0, .int .u8 0, .int .u8 0, .int .u8 0, .int .u8 0, .int .u8 0, .int .u8 0, .int .u8 0, .int .u8 0, .int .u8 0, .int .u8 0, .int .u8 0, .int .u8 0, .int .u8 0, .int .u8 0, .int .u8 0, .int .u8 0, .int .u8 0, .int .u8 0, .int .u8 0, .int .u8 0, .int .u8 0, .int .u8 0, .int .u8 0, .int .u8 0, .int .u8 0, .int .u8 0, .int .u8 0, .string ⟨#[120]⟩, .string gB] : Array Value) = E6 := by rw [hE6]; kernel_rfl
  have hCL : C = rootL := by rw [hC]; exact root_A
  have hset : EF.setIfInBounds 2 (.int .i64 6) = E6 := by rw [hEF, hE6]; unfold eA entA; rfl
  have c2 : EF[2]? = some (.int .i64 5) := by rw [hEF]; exact (eP 5 gB).c2
  have c36 : EF[36]? = some (.string gB) := by rw [hEF]; exact (eP 5 gB).c36
  have c636 : E6[36]? = some (.string gB) := by rw [hE6]; exact (eP 6 gB).c36
  have hq : ∀ w, (Op.equalIn 10000 25 (.agg E0) (.agg E0)).run Tryz.prog w = .ok true w := by rw [hE0]; exact eq_self
  have hGE := EqEnt.guardEnt
  have hgz := gB_size
  have hgk : decide ((1000 : Int) < ((1121 : Nat) : Int)) = true := by decide
  have hgq : (gB.toList == gB.toList) = true := beq_self_eq_true _
  have V3 := Sign_s
  have V4 := Bytes_s
  have V5 := Parse_s
  have V6 := Text_s
  have V7 := Read_s
  have V8 := Parse_more
  have V9 := Verify_5
  have V10 := Verify_6
  have V11 := Verify_1
  have V12 := Check_s
  have V2 := Root_s
  rw [← hE0] at V3 V7
  rw [← hEF] at V3 V4 V5 V6 V9
  rw [← hE6] at V10 V11
  rw [← hEZ] at V8 V12
  rw [← hC] at V2
  obtain ⟨gs, hgs⟩ : ∃ x, x = gB := ⟨_, rfl⟩
  rw [← hgs] at c36 c636 hgz hgq hE6L
  obtain ⟨ss, hss⟩ : ∃ x, x = sB := ⟨_, rfl⟩
  rw [← hss] at V4 V5 V8
  have hsz : ss.size ≤ 20000 := by rw [hss]; exact sB_size
  have hsl : ¬ 9223372036854775807 < ss.size + 1 := by omega
  obtain ⟨ts, hts⟩ : ∃ x, x = tB := ⟨_, rfl⟩
  rw [← hts] at V6 V7
  obtain ⟨GA, hGA⟩ : ∃ x, x = gr.A := ⟨_, rfl⟩
  have hGAn : GA.size = 36 := by rw [hGA]; unfold Gr'.A; rw [List.size_toArray, grF.len]
  have hGAc : GA.toList = gr.cs := by rw [hGA]; rfl
  have hGAb : Tryz.prog.built 46 [(0, .int .i64 2), (2, .int .i64 9), (3, .int .i64 1), (4, .agg C)] = some GA := by rw [hCL, hGA]; unfold Gr'.A Gr'.cs gr; rw [rootK_l, byV_bN, KeyN.root_s]; kernel_rfl
  have W2 := Lib.hid V2
  have W3 := Lib.hid V3
  have W4 := Lib.hid V4
  have W5 := Lib.hid V5
  have W6 := Lib.hid V6
  have W7 := Lib.hid V7
  have W8 := Lib.hid V8
  have W9 := Lib.hid V9
  have W10 := Lib.hid V10
  have W11 := Lib.hid V11
  have W12 := Lib.hid V12
  have HE0L := Lib.hid hE0L
  have HEZL := Lib.hid hEZL
  have HE6L := Lib.hid hE6L
  have Hset := Lib.hid hset
  have Hc2 := Lib.hid c2
  have Hc36 := Lib.hid c36
  have Hc636 := Lib.hid c636
  have HGAn := Lib.hid hGAn
  have HGAc' := Lib.hid (show GA.toList = [gr].flatMap Gr'.cs by rw [hGAc]; simp)
  have HGAb := Lib.hid hGAb
  have HV := Lib.hid hv
  have HK := Lib.hid hk
  clear hE0L hEZL hE6L hset c2 c36 c636 hGAc hGAb hGA hCL hE0 hEF hE6 hEZ hC hgs hss hts hv hk V2 V3 V4 V5 V6 V7 V8 V9 V10 V11 V12 hE0n hEFn hE6n hEZn hCn
  obtain ⟨w0, rfl⟩ : ∃ w0 : World, w0 = w := ⟨_, rfl⟩
  have HBL0 := Lib.hid (Below.refl w0.heap.size w0)
  have z0 := HBL0.out.size
  go_enter Tryz.func6, Tryz.ntmps6
  skip
  go_wp2_with (first | (refine wpList_store_rowA rfl _ _ _ rfl w0.heap.size E0 rfl (by rw [← HE0L.out]; rfl) _ _ (heap_new _ _) HE0S.out (by rw [← HE0N.out]; rfl) HE0O.out ?_) | fail)
  intro u1 hu1
  have hb : Below w0.heap.size w0 u1 := by rw [hu1.out]; exact below_row ((Below.refl _ _).alloc (Nat.le_refl _) _) (Nat.le_refl _) _
  have hy : u1.heap[w0.heap.size]? = some (.cells E0 25 (0, 0)) := by rw [hu1.out]; exact setRow_at (heap_new _ _)
  clear hu1
  obtain ⟨w1, hww⟩ : ∃ w', w' = u1 := ⟨_, rfl⟩
  rw [← hww] at hb hy ⊢
  clear hww
  obtain ⟨BE, hBE⟩ : ∃ B, B = w0.heap.size := ⟨_, rfl⟩
  rw [← hBE] at hy ⊢
  have gE : w0.heap.size ≤ BE := by omega
  clear hBE
  have Hyn := Lib.hid hy
  clear hy
  have HBL1 := Lib.hid (HBL0.out.trans (hb.mono HBL0.out.size))
  have z1 := HBL1.out.size
  clear hb z0 
  have HE1 := Lib.hid Hyn.out
  have lE1 := lt_row HE1.out
  clear Hyn
  go_wp2_with fail
  obtain ⟨w2, hw2⟩ : ∃ w2, w2 = w1.alloc (.cells #[.string ⟨#[115]⟩, .int .i64 1, .int .i64 0] 39) := ⟨_, rfl⟩
  rw [← hw2]
  have hb : Below w1.heap.size w1 w2 := by rw [hw2]; exact (Below.refl _ _).alloc (Nat.le_refl _) _
  have hy : w2.heap[w1.heap.size]? = some (.cells #[.string ⟨#[115]⟩, .int .i64 1, .int .i64 0] 39 (0, 0)) := by rw [hw2]; exact heap_new _ _
  clear hw2
  obtain ⟨BY, hBY⟩ : ∃ B, B = w1.heap.size := ⟨_, rfl⟩
  rw [← hBY] at hy ⊢
  have gY : w0.heap.size ≤ BY := by omega
  clear hBY
  have Hyn := Lib.hid hy
  clear hy
  have HE2 := Lib.hid ((hb.block _ lE1).trans HE1.out)
  have lE2 := lt_row HE2.out
  have HBL2 := Lib.hid (HBL1.out.trans (hb.mono HBL1.out.size))
  have z2 := HBL2.out.size
  clear hb z1 lE1
  have HY2 := Lib.hid Hyn.out
  have lY2 := lt_row HY2.out
  clear Hyn
  have eY : BY < w2.heap.size := lY2
  have eE : BE < w2.heap.size := lE2
  refine (Make_s w2 (HK.out.below HBL2.out)).mono ?_
  rintro e w3 ⟨R, v, rfl, hR, hb⟩
  have hRg := hR.ge
  have hRl := lt_row hR.row
  have HR3 := Lib.hid hR
  clear hR
  have HE3 := Lib.hid ((hb.block _ lE2).trans HE2.out)
  have lE3 := lt_row HE3.out
  have HY3 := Lib.hid ((hb.block _ lY2).trans HY2.out)
  have lY3 := lt_row HY3.out
  have HBL3 := Lib.hid (HBL2.out.trans (hb.mono HBL2.out.size))
  have z3 := HBL3.out.size
  clear hb z2 lE2 lY2
  obtain ⟨cy3, fy3⟩ := row_facts HY3.out
  go_wp2_with fail
  refine (W2.out w3 (HK.out.below HBL3.out)).mono ?_
  rintro e w4 ⟨rfl, hb⟩
  have HE4 := Lib.hid ((hb.block _ lE3).trans HE3.out)
  have lE4 := lt_row HE4.out
  have HY4 := Lib.hid ((hb.block _ lY3).trans HY3.out)
  have lY4 := lt_row HY4.out
  have HR4 := Lib.hid (ring_below HR3.out hb)
  have HBL4 := Lib.hid (HBL3.out.trans (hb.mono HBL3.out.size))
  have z4 := HBL4.out.size
  clear hb z3 lE3 lY3
  clear cy3 fy3
  go_wp2_with (first | (refine wpList_store_rowA rfl _ _ _ rfl w4.heap.size C rfl rfl _ _ (heap_new _ _) HCS.out (by rw [← HCN.out]; rfl) HCO.out ?_) | fail)
  intro u1 hu1
  have hb : Below w4.heap.size w4 u1 := by rw [hu1.out]; exact below_row ((Below.refl _ _).alloc (Nat.le_refl _) _) (Nat.le_refl _) _
  have hy : u1.heap[w4.heap.size]? = some (.cells C 23 (0, 0)) := by rw [hu1.out]; exact setRow_at (heap_new _ _)
  clear hu1
  obtain ⟨w5, hww⟩ : ∃ w', w' = u1 := ⟨_, rfl⟩
  rw [← hww] at hb hy ⊢
  clear hww
  obtain ⟨BT, hBT⟩ : ∃ B, B = w4.heap.size := ⟨_, rfl⟩
  rw [← hBT] at hy ⊢
  have gT : w0.heap.size ≤ BT := by omega
  have hRT : R < BT := by have := lt_row HR4.out.row; omega
  clear hBT
  have Hyn := Lib.hid hy
  clear hy
  have HE5 := Lib.hid ((hb.block _ lE4).trans HE4.out)
  have lE5 := lt_row HE5.out
  have HY5 := Lib.hid ((hb.block _ lY4).trans HY4.out)
  have lY5 := lt_row HY5.out
  have HR5 := Lib.hid (ring_below HR4.out hb)
  have HBL5 := Lib.hid (HBL4.out.trans (hb.mono HBL4.out.size))
  have z5 := HBL5.out.size
  clear hb z4 lE4 lY4
  have HT5 := Lib.hid Hyn.out
  have lT5 := lt_row HT5.out
  clear Hyn
  go_wp2_with (first | (refine wpList_load_row rfl _ _ rfl BE rfl _ E0 (0, 0) _ HE5.out Tryz.underlying25 rfl HE0S.out ?_) | fail)
  refine (W3.out w2 w5 R v HR5.out (HK.out.below HBL5.out) (HV.out.below HBL5.out)).mono ?_
  rintro e w6 ⟨rfl, hE⟩
  have lE_ := lE5
  have lY_ := lY5
  have HE6 := Lib.hid (hE.blockOf HE5.out (fun h => by omega))
  have lE6 := lt_row HE6.out
  have HY6 := Lib.hid (hE.blockOf HY5.out (fun h => by omega))
  have lY6 := lt_row HY6.out
  have HT6 := Lib.hid (hE.blockOf HT5.out (fun h => by omega))
  have lT6 := lt_row HT6.out
  have HBL6 := Lib.hid (Bl.ext HBL5.out hE (fun k h1 h => by omega))
  have z6 := HBL6.out.size
  clear hE z5 lE5 lY5 lT5
  go_wp2_with (first | (refine wpList_store_rowA rfl _ _ _ rfl w6.heap.size EF rfl rfl _ _ (heap_new _ _) HEFS.out (by rw [← HEFN.out]; rfl) HEFO.out ?_) | fail)
  intro u1 hu1
  have hb : Below w6.heap.size w6 u1 := by rw [hu1.out]; exact below_row ((Below.refl _ _).alloc (Nat.le_refl _) _) (Nat.le_refl _) _
  have hy : u1.heap[w6.heap.size]? = some (.cells EF 25 (0, 0)) := by rw [hu1.out]; exact setRow_at (heap_new _ _)
  clear hu1
  obtain ⟨w7, hww⟩ : ∃ w', w' = u1 := ⟨_, rfl⟩
  rw [← hww] at hb hy ⊢
  clear hww
  obtain ⟨BF, hBF⟩ : ∃ B, B = w6.heap.size := ⟨_, rfl⟩
  rw [← hBF] at hy ⊢
  have gF : w0.heap.size ≤ BF := by omega
  have hEF : BE < BF := by have := lE6; omega
  clear hBF
  have Hyn := Lib.hid hy
  clear hy
  have HE7 := Lib.hid ((hb.block _ lE6).trans HE6.out)
  have lE7 := lt_row HE7.out
  have HY7 := Lib.hid ((hb.block _ lY6).trans HY6.out)
  have lY7 := lt_row HY7.out
  have HT7 := Lib.hid ((hb.block _ lT6).trans HT6.out)
  have lT7 := lt_row HT7.out
  have HBL7 := Lib.hid (HBL6.out.trans (hb.mono HBL6.out.size))
  have z7 := HBL7.out.size
  clear hb z6 lE6 lY6 lT6
  have HF7 := Lib.hid Hyn.out
  have lF7 := lt_row HF7.out
  clear Hyn
  go_wp2_with (first | (refine wpList_load_row rfl _ _ rfl BT rfl _ C (0, 0) _ HT7.out Tryz.underlying23 rfl HCS.out ?_) | (refine wpList_buildC rfl 46 _ rfl GA (by first | exact HGAb.out | (go_simp; exact HGAb.out)) ?_) | (refine wpList_load_row rfl _ _ rfl BF rfl _ EF (0, 0) _ (heap_at HF7.out _) Tryz.underlying25 rfl HEFS.out ?_) | fail)
  rw [fold_any #[.int .i64 0, .int .i64 0, .int .i64 0, .int .i64 0, .int .u8 0, .int .u8 0, .int .u8 0, .int .u8 0, .int .u8 0, .int .u8 0, .int .u8 0, .int .u8 0, .int .u8 0, .int .u8 0, .int .u8 0, .int .u8 0, .int .u8 0, .int .u8 0, .int .u8 0, .int .u8 0, .int .u8 0, .int .u8 0, .int .u8 0, .int .u8 0, .int .u8 0, .int .u8 0, .int .u8 0, .int .u8 0, .int .u8 0, .int .u8 0, .int .u8 0, .int .u8 0, .int .u8 0, .int .u8 0, .int .u8 0, .int .u8 0] GA 36 rfl hGAn]
  obtain ⟨w8, hww⟩ : ∃ w', w' = w7.alloc (.cells GA 46) := ⟨_, rfl⟩
  rw [← hww]
  have hb : Below w7.heap.size w7 w8 := by rw [hww]; exact (Below.refl _ _).alloc (Nat.le_refl _) _
  have hy : w8.heap[w7.heap.size]? = some (.cells GA 46 (0, 0)) := by rw [hww]; exact heap_new _ _
  clear hww
  obtain ⟨BB, hBB⟩ : ∃ B, B = w7.heap.size := ⟨_, rfl⟩
  rw [← hBB] at hy ⊢
  have hFB : BF < BB := by have := lF7; omega
  clear hBB
  have Hyn := Lib.hid hy
  clear hy
  have HE8 := Lib.hid ((hb.block _ lE7).trans HE7.out)
  have lE8 := lt_row HE8.out
  have HY8 := Lib.hid ((hb.block _ lY7).trans HY7.out)
  have lY8 := lt_row HY8.out
  have HT8 := Lib.hid ((hb.block _ lT7).trans HT7.out)
  have lT8 := lt_row HT8.out
  have HF8 := Lib.hid ((hb.block _ lF7).trans HF7.out)
  have lF8 := lt_row HF8.out
  have HBL8 := Lib.hid (HBL7.out.trans (hb.mono HBL7.out.size))
  have z8 := HBL8.out.size
  clear hb z7 lE7 lY7 lT7 lF7
  have HB8 := Lib.hid Hyn.out
  have lB8 := lt_row HB8.out
  clear Hyn
  refine (W4.out w8 (HV.out.below HBL8.out)).mono ?_
  rintro e w9 ⟨rfl, hb⟩
  have HE9 := Lib.hid ((hb.block _ lE8).trans HE8.out)
  have lE9 := lt_row HE9.out
  have HY9 := Lib.hid ((hb.block _ lY8).trans HY8.out)
  have lY9 := lt_row HY9.out
  have HT9 := Lib.hid ((hb.block _ lT8).trans HT8.out)
  have lT9 := lt_row HT9.out
  have HF9 := Lib.hid ((hb.block _ lF8).trans HF8.out)
  have lF9 := lt_row HF9.out
  have HB9 := Lib.hid ((hb.block _ lB8).trans HB8.out)
  have lB9 := lt_row HB9.out
  have HBL9 := Lib.hid (HBL8.out.trans (hb.mono HBL8.out.size))
  have z9 := HBL9.out.size
  clear hb z8 lE8 lY8 lT8 lF8 lB8
  go_wp2_with fail
  refine (W5.out w9 (HV.out.below HBL9.out)).mono ?_
  rintro e w10 ⟨rfl, hb⟩
  have HE10 := Lib.hid ((hb.block _ lE9).trans HE9.out)
  have lE10 := lt_row HE10.out
  have HY10 := Lib.hid ((hb.block _ lY9).trans HY9.out)
  have lY10 := lt_row HY10.out
  have HT10 := Lib.hid ((hb.block _ lT9).trans HT9.out)
  have lT10 := lt_row HT10.out
  have HF10 := Lib.hid ((hb.block _ lF9).trans HF9.out)
  have lF10 := lt_row HF10.out
  have HB10 := Lib.hid ((hb.block _ lB9).trans HB9.out)
  have lB10 := lt_row HB10.out
  have HBL10 := Lib.hid (HBL9.out.trans (hb.mono HBL9.out.size))
  have z10 := HBL10.out.size
  clear hb z9 lE9 lY9 lT9 lF9 lB9
  go_wp2_with (first | (refine wpList_store_rowA rfl _ _ _ rfl w10.heap.size EF rfl rfl _ _ (heap_new _ _) HEFS.out (by rw [← HEFN.out]; rfl) HEFO.out ?_) | fail)
  intro u1 hu1
  have hb : Below w10.heap.size w10 u1 := by rw [hu1.out]; exact below_row ((Below.refl _ _).alloc (Nat.le_refl _) _) (Nat.le_refl _) _
  have hy : u1.heap[w10.heap.size]? = some (.cells EF 25 (0, 0)) := by rw [hu1.out]; exact setRow_at (heap_new _ _)
  clear hu1
  obtain ⟨w11, hww⟩ : ∃ w', w' = u1 := ⟨_, rfl⟩
  rw [← hww] at hb hy ⊢
  clear hww
  obtain ⟨BG, hBG⟩ : ∃ B, B = w10.heap.size := ⟨_, rfl⟩
  rw [← hBG] at hy ⊢
  have gG : w0.heap.size ≤ BG := by omega
  have hFG : BF < BG := by have := lF10; omega
  clear hBG
  have Hyn := Lib.hid hy
  clear hy
  have HE11 := Lib.hid ((hb.block _ lE10).trans HE10.out)
  have lE11 := lt_row HE11.out
  have HY11 := Lib.hid ((hb.block _ lY10).trans HY10.out)
  have lY11 := lt_row HY11.out
  have HT11 := Lib.hid ((hb.block _ lT10).trans HT10.out)
  have lT11 := lt_row HT11.out
  have HF11 := Lib.hid ((hb.block _ lF10).trans HF10.out)
  have lF11 := lt_row HF11.out
  have HB11 := Lib.hid ((hb.block _ lB10).trans HB10.out)
  have lB11 := lt_row HB11.out
  have HBL11 := Lib.hid (HBL10.out.trans (hb.mono HBL10.out.size))
  have z11 := HBL11.out.size
  clear hb z10 lE10 lY10 lT10 lF10 lB10
  have HG11 := Lib.hid Hyn.out
  have lG11 := lt_row HG11.out
  clear Hyn
  go_wp2_with (first | (refine wpList_load_row rfl _ _ rfl BF rfl _ EF (0, 0) _ HF11.out Tryz.underlying25 rfl HEFS.out ?_) | fail)
  refine (W6.out w11 (HV.out.below HBL11.out)).mono ?_
  rintro e w12 ⟨rfl, hb⟩
  have HE12 := Lib.hid ((hb.block _ lE11).trans HE11.out)
  have lE12 := lt_row HE12.out
  have HY12 := Lib.hid ((hb.block _ lY11).trans HY11.out)
  have lY12 := lt_row HY12.out
  have HT12 := Lib.hid ((hb.block _ lT11).trans HT11.out)
  have lT12 := lt_row HT12.out
  have HF12 := Lib.hid ((hb.block _ lF11).trans HF11.out)
  have lF12 := lt_row HF12.out
  have HB12 := Lib.hid ((hb.block _ lB11).trans HB11.out)
  have lB12 := lt_row HB12.out
  have HG12 := Lib.hid ((hb.block _ lG11).trans HG11.out)
  have lG12 := lt_row HG12.out
  have HBL12 := Lib.hid (HBL11.out.trans (hb.mono HBL11.out.size))
  have z12 := HBL12.out.size
  clear hb z11 lE11 lY11 lT11 lF11 lB11 lG11
  go_wp2_with fail
  refine (W7.out w12 (HV.out.below HBL12.out)).mono ?_
  rintro e w13 ⟨rfl, hb⟩
  have HE13 := Lib.hid ((hb.block _ lE12).trans HE12.out)
  have lE13 := lt_row HE13.out
  have HY13 := Lib.hid ((hb.block _ lY12).trans HY12.out)
  have lY13 := lt_row HY13.out
  have HT13 := Lib.hid ((hb.block _ lT12).trans HT12.out)
  have lT13 := lt_row HT13.out
  have HF13 := Lib.hid ((hb.block _ lF12).trans HF12.out)
  have lF13 := lt_row HF13.out
  have HB13 := Lib.hid ((hb.block _ lB12).trans HB12.out)
  have lB13 := lt_row HB13.out
  have HG13 := Lib.hid ((hb.block _ lG12).trans HG12.out)
  have lG13 := lt_row HG13.out
  have HBL13 := Lib.hid (HBL12.out.trans (hb.mono HBL12.out.size))
  have z13 := HBL13.out.size
  clear hb z12 lE12 lY12 lT12 lF12 lB12 lG12
  go_wp2_with (first | (refine wpList_store_rowA rfl _ _ _ rfl w13.heap.size E0 rfl rfl _ _ (heap_new _ _) HE0S.out (by rw [← HE0N.out]; rfl) HE0O.out ?_) | fail)
  intro u1 hu1
  have hb : Below w13.heap.size w13 u1 := by rw [hu1.out]; exact below_row ((Below.refl _ _).alloc (Nat.le_refl _) _) (Nat.le_refl _) _
  have hy : u1.heap[w13.heap.size]? = some (.cells E0 25 (0, 0)) := by rw [hu1.out]; exact setRow_at (heap_new _ _)
  clear hu1
  obtain ⟨w14, hww⟩ : ∃ w', w' = u1 := ⟨_, rfl⟩
  rw [← hww] at hb hy ⊢
  clear hww
  obtain ⟨BH, hBH⟩ : ∃ B, B = w13.heap.size := ⟨_, rfl⟩
  rw [← hBH] at hy ⊢
  have gH : w0.heap.size ≤ BH := by omega
  have hFH : BF < BH := by have := lF13; omega
  clear hBH
  have Hyn := Lib.hid hy
  clear hy
  have HE14 := Lib.hid ((hb.block _ lE13).trans HE13.out)
  have lE14 := lt_row HE14.out
  have HY14 := Lib.hid ((hb.block _ lY13).trans HY13.out)
  have lY14 := lt_row HY14.out
  have HT14 := Lib.hid ((hb.block _ lT13).trans HT13.out)
  have lT14 := lt_row HT14.out
  have HF14 := Lib.hid ((hb.block _ lF13).trans HF13.out)
  have lF14 := lt_row HF14.out
  have HB14 := Lib.hid ((hb.block _ lB13).trans HB13.out)
  have lB14 := lt_row HB14.out
  have HG14 := Lib.hid ((hb.block _ lG13).trans HG13.out)
  have lG14 := lt_row HG14.out
  have HBL14 := Lib.hid (HBL13.out.trans (hb.mono HBL13.out.size))
  have z14 := HBL14.out.size
  clear hb z13 lE13 lY13 lT13 lF13 lB13 lG13
  have HH14 := Lib.hid Hyn.out
  have lH14 := lt_row HH14.out
  clear Hyn
  go_wp2_with fail
  refine (W8.out w14 (HV.out.below HBL14.out)).mono ?_
  rintro e w15 ⟨rfl, hb⟩
  have HE15 := Lib.hid ((hb.block _ lE14).trans HE14.out)
  have lE15 := lt_row HE15.out
  have HY15 := Lib.hid ((hb.block _ lY14).trans HY14.out)
  have lY15 := lt_row HY15.out
  have HT15 := Lib.hid ((hb.block _ lT14).trans HT14.out)
  have lT15 := lt_row HT15.out
  have HF15 := Lib.hid ((hb.block _ lF14).trans HF14.out)
  have lF15 := lt_row HF15.out
  have HB15 := Lib.hid ((hb.block _ lB14).trans HB14.out)
  have lB15 := lt_row HB15.out
  have HG15 := Lib.hid ((hb.block _ lG14).trans HG14.out)
  have lG15 := lt_row HG15.out
  have HH15 := Lib.hid ((hb.block _ lH14).trans HH14.out)
  have lH15 := lt_row HH15.out
  have HBL15 := Lib.hid (HBL14.out.trans (hb.mono HBL14.out.size))
  have z15 := HBL15.out.size
  clear hb z14 lE14 lY14 lT14 lF14 lB14 lG14 lH14
  go_wp2_with (first | (refine wpList_store_rowA rfl _ _ _ rfl w15.heap.size EZ rfl rfl _ _ (heap_new _ _) HEZS.out (by rw [← HEZN.out]; rfl) HEZO.out ?_) | fail)
  intro u1 hu1
  have hb : Below w15.heap.size w15 u1 := by rw [hu1.out]; exact below_row ((Below.refl _ _).alloc (Nat.le_refl _) _) (Nat.le_refl _) _
  have hy : u1.heap[w15.heap.size]? = some (.cells EZ 25 (0, 0)) := by rw [hu1.out]; exact setRow_at (heap_new _ _)
  clear hu1
  obtain ⟨w16, hww⟩ : ∃ w', w' = u1 := ⟨_, rfl⟩
  rw [← hww] at hb hy ⊢
  clear hww
  obtain ⟨BQ, hBQ⟩ : ∃ B, B = w15.heap.size := ⟨_, rfl⟩
  rw [← hBQ] at hy ⊢
  have gQ : w0.heap.size ≤ BQ := by omega
  clear hBQ
  have Hyn := Lib.hid hy
  clear hy
  have HE16 := Lib.hid ((hb.block _ lE15).trans HE15.out)
  have lE16 := lt_row HE16.out
  have HY16 := Lib.hid ((hb.block _ lY15).trans HY15.out)
  have lY16 := lt_row HY16.out
  have HT16 := Lib.hid ((hb.block _ lT15).trans HT15.out)
  have lT16 := lt_row HT16.out
  have HF16 := Lib.hid ((hb.block _ lF15).trans HF15.out)
  have lF16 := lt_row HF16.out
  have HB16 := Lib.hid ((hb.block _ lB15).trans HB15.out)
  have lB16 := lt_row HB16.out
  have HG16 := Lib.hid ((hb.block _ lG15).trans HG15.out)
  have lG16 := lt_row HG16.out
  have HH16 := Lib.hid ((hb.block _ lH15).trans HH15.out)
  have lH16 := lt_row HH16.out
  have HBL16 := Lib.hid (HBL15.out.trans (hb.mono HBL15.out.size))
  have z16 := HBL16.out.size
  clear hb z15 lE15 lY15 lT15 lF15 lB15 lG15 lH15
  have HQ16 := Lib.hid Hyn.out
  have lQ16 := lt_row HQ16.out
  clear Hyn
  go_wp2_with (first | (refine wpList_load_row rfl _ _ rfl BF rfl _ EF (0, 0) _ HF16.out Tryz.underlying25 rfl HEFS.out ?_) | fail)
  refine (W9.out w16 _ (HK.out.below HBL16.out) (HV.out.below HBL16.out) (by rw [← HGAc'.out]; exact sl_one HB16.out hGAn)).mono ?_
  rintro e w17 ⟨rfl, hb⟩
  have HE17 := Lib.hid ((hb.block _ lE16).trans HE16.out)
  have lE17 := lt_row HE17.out
  have HY17 := Lib.hid ((hb.block _ lY16).trans HY16.out)
  have lY17 := lt_row HY17.out
  have HT17 := Lib.hid ((hb.block _ lT16).trans HT16.out)
  have lT17 := lt_row HT17.out
  have HF17 := Lib.hid ((hb.block _ lF16).trans HF16.out)
  have lF17 := lt_row HF17.out
  have HB17 := Lib.hid ((hb.block _ lB16).trans HB16.out)
  have lB17 := lt_row HB17.out
  have HG17 := Lib.hid ((hb.block _ lG16).trans HG16.out)
  have lG17 := lt_row HG17.out
  have HH17 := Lib.hid ((hb.block _ lH16).trans HH16.out)
  have lH17 := lt_row HH17.out
  have HQ17 := Lib.hid ((hb.block _ lQ16).trans HQ16.out)
  have lQ17 := lt_row HQ17.out
  have HBL17 := Lib.hid (HBL16.out.trans (hb.mono HBL16.out.size))
  have z17 := HBL17.out.size
  clear hb z16 lE16 lY16 lT16 lF16 lB16 lG16 lH16 lQ16
  have hne1 : ¬ BG = BF := by omega
  have hne2 : ¬ BF = BG := by omega
  obtain ⟨cy, fy⟩ := row_facts HF17.out
  have kF2 := (cy 2).trans Hc2.out
  have kF36 := (cy 36).trans Hc36.out
  have fF2 := fy 2
  obtain ⟨cx, fx⟩ := row_facts HG17.out
  have kG2 := (cx 2).trans Hc2.out
  have kG36 := (cx 36).trans Hc36.out
  clear cy fy cx fx
  have hXF := Lib.hid (show (w17.setCell ⟨BF, 2, none⟩ (.int .i64 6)).heap[BF]? = some (.cells E6 25 (0, 0)) by rw [← Hset.out]; exact heap_setCell_same HF17.out _)
  have hXH := Lib.hid (show (w17.setCell ⟨BF, 2, none⟩ (.int .i64 6)).heap[BH]? = some (.cells E0 25 (0, 0)) by rw [heap_setCell_far _ (by omega)]; exact HH17.out)
  have hXE := Lib.hid (show (w17.setCell ⟨BF, 2, none⟩ (.int .i64 6)).heap[BE]? = some (.cells E0 25 (0, 0)) by rw [heap_setCell_far _ (by omega)]; exact HE17.out)
  have hXB := Lib.hid (show (w17.setCell ⟨BF, 2, none⟩ (.int .i64 6)).heap[BB]? = some (.cells GA 46 (0, 0)) by rw [heap_setCell_far _ (by omega)]; exact HB17.out)
  have hXW := Lib.hid (show Below w0.heap.size w0 (w17.setCell ⟨BF, 2, none⟩ (.int .i64 6)) from HBL17.out.setCell (p := ⟨BF, 2, none⟩) (by show w0.heap.size ≤ BF; omega) _)
  go_wp2_with (first | (guard_target =~ wpList _ _ _ (_ :: _) _ _; refine Hid.out ?_) | fail)
  refine Lib.hid (Lib.hid ?_)
  iterate 11 go_step
  simp only [List.append_eq, List.cons_append, List.nil_append]
  go_wp2_with (first | (refine WireT.wpList_load_rowG (by first | rfl | kernel_rfl) _ _ rfl BH rfl _ E0 (0, 0) _ hXH.out Tryz.underlying25 rfl HE0S.out ?_) | (refine WireT.wpList_load_rowG (by first | rfl | kernel_rfl) _ _ rfl BE rfl _ E0 (0, 0) _ hXE.out Tryz.underlying25 rfl HE0S.out ?_) | (refine WireT.wpList_load_rowG (by first | rfl | kernel_rfl) _ _ rfl BF rfl _ E6 (0, 0) _ hXF.out Tryz.underlying25 rfl HE6S.out ?_) | fail)
  refine (W10.out _ _ (HK.out.below hXW.out) (HV.out.below hXW.out) (by rw [← HGAc'.out]; exact sl_one hXB.out hGAn)).mono ?_
  rintro e wa ⟨rfl, hb⟩
  have hYF := Lib.hid ((hb.block _ (lt_row hXF.out)).trans hXF.out)
  have hYB := Lib.hid ((hb.block _ (lt_row hXB.out)).trans hXB.out)
  have hYW := Lib.hid (hXW.out.trans (hb.mono hXW.out.size))
  clear hb
  go_wp2_with (first | (refine WireT.wpList_load_rowG (by first | rfl | kernel_rfl) _ _ rfl BF rfl _ E6 (0, 0) _ hYF.out Tryz.underlying25 rfl HE6S.out ?_) | fail)
  refine (W11.out _ _ (HK.out.below hYW.out) (HV.out.below hYW.out) (by rw [← HGAc'.out]; exact sl_one hYB.out hGAn)).mono ?_
  rintro e wb ⟨rfl, hb⟩
  have hZW := Lib.hid (hYW.out.trans (hb.mono hYW.out.size))
  clear hb
  go_wp2_with fail
  rw [HEZL.out]
  refine (W12.out _ (HV.out.below hZW.out)).mono ?_
  rintro e wc ⟨rfl, hb⟩
  have hUW := Lib.hid (hZW.out.trans (hb.mono hZW.out.size))
  clear hb
  go_wp2
  go_ret
  exact ⟨rfl, hUW.out⟩


end Go.Proofs.YtooincpbmlhpbaaGreatDoor.EntQ
